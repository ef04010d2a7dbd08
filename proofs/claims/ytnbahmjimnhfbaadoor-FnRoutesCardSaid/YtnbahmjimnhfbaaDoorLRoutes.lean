/-
  FnRoutes: the law answers true at every input, and the input reads behind the call as it read before. No condition.
-/
import Derived.Test.YtnbahmjimnhfbaaDoorFrame
import Derived.Test.YtnbahmjimnhfbaaDoorFacts
import Derived.WalkKit
import Derived.WalkSpells
import Derived.WalkLawsBesides
import Derived.Deep.RegionWith
import Derived.Deep.DeepCutAuto
import Derived.Test.YtnbahmjimnhfbaaDoorOpnByte
import Derived.Test.YtnbahmjimnhfbaaDoorA3
import Derived.LaidMore
import Derived.Stop.Joined
import Derived.Stop.LaidErr
import Derived.SevenTiedAt
import Derived.Test.YtnbahmjimnhfbaaDoorCards
import Derived.Test.YtnbahmjimnhfbaaDoorTie
namespace Go.Proofs.YtnbahmjimnhfbaaDoor
open Go.ChangeShapes Go.WideShapes Go.ChangeAt Go.RowKit
namespace fnRoutes
set_option linter.unusedVariables false
set_option linter.unusedSimpArgs false
set_option maxRecDepth 100000 in
set_option maxHeartbeats 20000000 in
theorem walk (w : World) (A0 : Option Addr) (n0 c0 : Nat) (l0 : List (Int)) (hl0 : l0.length = n0) (hm0 : n0 ≤ maxLen) (hr0 : Rd w 0 w.heap.size 1 A0 n0 (rByte l0)) (hw0 : ∀ p ∈ l0, (Lit.int .u8 p).wf = true) (A1 : Option Addr) (n1 c1 : Nat) (l1 : List (Int)) (hl1 : l1.length = n1) (hm1 : n1 ≤ maxLen) (hr1 : Rd w 0 w.heap.size 1 A1 n1 (rByte l1)) (hw1 : ∀ p ∈ l1, (Lit.int .u8 p).wf = true) (ht : Tb w) :
    Calls Tryd.prog 3 #[.slice A0 n0 c0, .slice A1 n1 c1] w fun e w' => e = .returned (.bool true) ∧ Below w.heap.size w w' := by
  by_cases hn0 : n0 ≤ 3000 ∧ n1 ≤ 3000
  · obtain ⟨hn0, hn1⟩ := hn0
    have hv0 := rByte_u8 hw0
    have hv1 := rByte_u8 hw1
    have HV0 := hide hv0
    have HV1 := hide hv1
    have HR0 := hide hr0
    have HR1 := hide hr1
    have HTb := hide ht
    have HB := hide (Below.refl w.heap.size w)
    clear hw0 hw1 hv0 hv1 hl0 hl1 hr0 hr1 ht
    go_enter Tryd.func3, Tryd.ntmps3
    go_wp2_with fail
    refine (a2Long_no A0 A1 n0 c0 n1 c1 hn0 hn1 _).mono ?_
    rintro e w' ⟨rfl, rfl⟩
    go_wp2_with fail
    refine (A2Table_g A0 n0 c0 w.heap.size _ hm0 _ HR0.out (Nat.le_refl _) HV0.out).mono ?_
    rintro e w1 ⟨v, rfl, hv, hq⟩
    have hs_w1 : w.heap.size ≤ w1.heap.size := hq.size
    replace HR0 := hide (HR0.out.below hq (by omega))
    replace HR1 := hide (HR1.out.below hq (by omega))
    replace HTb := hide (HTb.out.below hq (by omega))
    replace HB := hide (HB.out.trans (hq.mono (by omega)))
    clear hq
    obtain ⟨At, nt, ct, T, rfl, hmt, ok, hrt⟩ := hv.okT
    obtain rfl := tab_n hrt ok
    have OK := hide ok
    have Rt := hide hrt
    clear hv ok hrt
    clear HR0
    go_wp2_with fail
    refine (a2At_any A1 n1 c1 0 w.heap.size _ 0 (by omega) hm1 _ HR1.out HV1.out).mono ?_
    rintro e w' ⟨ka, hka, rfl, hw⟩
    obtain rfl := hw
    go_wp2_with fail
    refine (a2At_any A1 n1 c1 0 w.heap.size _ 1 (by omega) hm1 _ HR1.out HV1.out).mono ?_
    rintro e w' ⟨kb, hkb, rfl, hw⟩
    obtain rfl := hw
    go_wp2_with fail
    obtain ⟨w2, hW⟩ : ∃ W : World, W = w1.alloc (.cells #[.int .i64 (ka : Int), .int .i64 (kb : Int)] 2) := ⟨_, rfl⟩
    rw [← hW]
    have hs_w2 : w2.heap.size = w1.heap.size + 1 := by rw [hW]; simp
    have hq : Below w1.heap.size w1 w2 := by rw [hW]; exact (Below.refl _ _).alloc (Nat.le_refl _) _
    replace HR1 := hide (HR1.out.below hq (by omega))
    replace HTb := hide (HTb.out.below hq (by omega))
    replace Rt := hide (Rt.out.below hq (by omega))
    replace HB := hide (HB.out.trans (hq.mono (by omega)))
    clear hq
    have RF := hide (show Rd w2 w1.heap.size (w1.heap.size + 1) 1 (some ⟨w1.heap.size, 0, none⟩) 2 (rInt64 [(ka : Int), (kb : Int)]) by rw [hW]; exact rd_lit w1 #[.int .i64 (ka : Int), .int .i64 (kb : Int)] _ 2 rfl)
    clear hW
    refine (a2At_any A1 n1 c1 0 w.heap.size _ 2 (by omega) hm1 _ HR1.out HV1.out).mono ?_
    rintro e w' ⟨kc, hkc, rfl, hw⟩
    obtain rfl := hw
    go_wp2_with fail
    refine (a2At_any A1 n1 c1 0 w.heap.size _ 3 (by omega) hm1 _ HR1.out HV1.out).mono ?_
    rintro e w' ⟨kd, hkd, rfl, hw⟩
    obtain rfl := hw
    go_wp2_with fail
    obtain ⟨w3, hW⟩ : ∃ W : World, W = w2.alloc (.cells #[.int .i64 (kc : Int), .int .i64 (kd : Int)] 2) := ⟨_, rfl⟩
    rw [← hW]
    have hs_w3 : w3.heap.size = w2.heap.size + 1 := by rw [hW]; simp
    have hq : Below w2.heap.size w2 w3 := by rw [hW]; exact (Below.refl _ _).alloc (Nat.le_refl _) _
    replace HR1 := hide (HR1.out.below hq (by omega))
    replace HTb := hide (HTb.out.below hq (by omega))
    replace Rt := hide (Rt.out.below hq (by omega))
    replace RF := hide (RF.out.below hq (by omega))
    replace HB := hide (HB.out.trans (hq.mono (by omega)))
    clear hq
    have RG := hide (show Rd w3 w2.heap.size (w2.heap.size + 1) 1 (some ⟨w2.heap.size, 0, none⟩) 2 (rInt64 [(kc : Int), (kd : Int)]) by rw [hW]; exact rd_lit w2 #[.int .i64 (kc : Int), .int .i64 (kd : Int)] _ 2 rfl)
    clear hW
    replace RG := hide (show Rd w3 ((w1.heap.size + 1)) ((w1.heap.size + 1) + 1) 1 (some ⟨(w1.heap.size + 1), 0, none⟩) 2 (rInt64 [(kc : Int), (kd : Int)]) by rw [← hs_w2]; exact RG.out)
    clear HR1
    clear HV0 HV1
    have da := hide (show dirOk (ka : Int) from ⟨by omega, by omega⟩)
    have db := hide (show dirOk (kb : Int) from ⟨by omega, by omega⟩)
    have dc := hide (show dirOk (kc : Int) from ⟨by omega, by omega⟩)
    have dd := hide (show dirOk (kd : Int) from ⟨by omega, by omega⟩)
    obtain ⟨cc, hcc⟩ : ∃ z, frC T [(ka : Int), (kb : Int)] [(kc : Int), (kd : Int)] = z := ⟨_, rfl⟩
    obtain ⟨nn, hnn⟩ : ∃ z, (rlP T [(ka : Int), (kb : Int)] [(kc : Int), (kd : Int)]).1 = z := ⟨_, rfl⟩
    have q := rt_codes OK.out da.out db.out dc.out dd.out
    rw [hcc, hnn] at q
    obtain ⟨q1, q2, q3⟩ := q
    have Q1 := hide q1
    have Q2 := hide q2
    have Q3 := hide q3
    have HCC := hide hcc
    have HNN := hide hnn
    clear q1 q2 q3 hcc hnn
    refine (implRouteLength_any At (some ⟨w1.heap.size, 0, none⟩) (some ⟨(w1.heap.size + 1), 0, none⟩) 24 ct _ _ 2 2 _ _ 2 2 _ _ T [(ka : Int), (kb : Int)] [(kc : Int), (kd : Int)] (by unfold maxLen; omega) rfl (by unfold maxLen; omega) rfl (by unfold maxLen; omega) _ Rt.out (by omega) RF.out (by omega) RG.out (by omega)).mono ?_
    rintro e w4 ⟨rfl, hq⟩
    have hs_w4 : w3.heap.size ≤ w4.heap.size := hq.size
    replace HTb := hide (HTb.out.below hq (by omega))
    replace Rt := hide (Rt.out.below hq (by omega))
    replace RF := hide (RF.out.below hq (by omega))
    replace RG := hide (RG.out.below hq (by omega))
    replace HB := hide (HB.out.trans (hq.mono (by omega)))
    clear hq
    rw [HNN.out, Q1.out]
    go_wp2_with fail
    refine (implFindRoute_any At (some ⟨w1.heap.size, 0, none⟩) (some ⟨(w1.heap.size + 1), 0, none⟩) 24 ct _ _ 2 2 _ _ 2 2 _ _ T [(ka : Int), (kb : Int)] [(kc : Int), (kd : Int)] (by unfold maxLen; omega) rfl (by unfold maxLen; omega) rfl (by unfold maxLen; omega) _ Rt.out (by omega) RF.out (by omega) RG.out (by omega)).mono ?_
    rintro e w5 ⟨vr, rfl, hov, hq⟩
    have hs_w5 : w4.heap.size ≤ w5.heap.size := hq.size
    replace HTb := hide (HTb.out.below hq (by omega))
    replace Rt := hide (Rt.out.below hq (by omega))
    replace RF := hide (RF.out.below hq (by omega))
    replace RG := hide (RG.out.below hq (by omega))
    replace HB := hide (HB.out.trans (hq.mono (by omega)))
    clear hq
    obtain ⟨Ar, cr, rfl, hncr, hcmr, hrr⟩ := hov.rd
    rw [HCC.out]
    obtain ⟨M, hM⟩ : ∃ z, (frL T [(ka : Int), (kb : Int)] [(kc : Int), (kd : Int)]).length = z := ⟨_, rfl⟩
    rw [hM] at hncr hrr
    rw [hM]
    have HM := hide hM
    have RR := hide hrr
    clear hM hrr hov
    go_wp2_with fail
    refine (implRouteLength_any At (some ⟨(w1.heap.size + 1), 0, none⟩) (some ⟨w1.heap.size, 0, none⟩) 24 ct _ _ 2 2 _ _ 2 2 _ _ T [(kc : Int), (kd : Int)] [(ka : Int), (kb : Int)] (by unfold maxLen; omega) rfl (by unfold maxLen; omega) rfl (by unfold maxLen; omega) _ Rt.out (by omega) RG.out (by omega) RF.out (by omega)).mono ?_
    rintro e w6 ⟨rfl, hq⟩
    have hs_w6 : w5.heap.size ≤ w6.heap.size := hq.size
    replace HTb := hide (HTb.out.below hq (by omega))
    replace Rt := hide (Rt.out.below hq (by omega))
    replace RF := hide (RF.out.below hq (by omega))
    replace RG := hide (RG.out.below hq (by omega))
    replace RR := hide (RR.out.below hq (by omega))
    replace HB := hide (HB.out.trans (hq.mono (by omega)))
    clear hq
    rw [← Q3.out, Q2.out]
    by_cases h0 : cc = 0
    · subst h0
      obtain ⟨N, hf, en, e1, hF⟩ := route_good OK.out da.out db.out dc.out dd.out HCC.out
      rw [HNN.out] at en
      subst en
      have hMN : M = N + 1 := by rw [← HM.out, hF.len]
      subst hMN
      obtain ⟨R, hR⟩ : ∃ z, frL T [(ka : Int), (kb : Int)] [(kc : Int), (kd : Int)] = z := ⟨_, rfl⟩
      rw [hR] at RR hF
      have HF := hide hF
      have E1 := hide e1
      have HF0 := hide hf
      have hN5 := hF.small
      clear hR hF e1 hf HM Q1 Q2 Q3
      go_wp2_with fail
      refine (implCheckRoute_any At Ar 24 ct _ _ (N + 1) cr _ _ T R (by unfold maxLen; omega) (by unfold maxLen; omega) _ Rt.out (by omega) RR.out (by omega)).mono ?_
      rintro e w7 ⟨rfl, hq⟩
      have hs_w7 : w6.heap.size ≤ w7.heap.size := hq.size
      replace HTb := hide (HTb.out.below hq (by omega))
      replace Rt := hide (Rt.out.below hq (by omega))
      replace RF := hide (RF.out.below hq (by omega))
      replace RG := hide (RG.out.below hq (by omega))
      replace RR := hide (RR.out.below hq (by omega))
      replace HB := hide (HB.out.trans (hq.mono (by omega)))
      clear hq
      rw [show (crP T R).1 = -1 by rw [HF.out.chk], show (crP T R).2 = 0 by rw [HF.out.chk]]
      obtain ⟨b0, o0, br, or_, ci0, rfl, lr1, lr2, qc, hrd⟩ := rr_two RR.out (show 0 < N + 1 by omega) HF.out.first
      simp only [Nat.add_zero] at qc
      have HRD := hide hrd
      clear hrd
      go_wp2_with fail
      refine (a2Same_two _ (some ⟨w1.heap.size, 0, none⟩) ci0 2 _ _ _ _ ka kb _ HRD.out RF.out).mono ?_
      rintro e w8 ⟨rfl, hq⟩
      have hs_w8 : w7.heap.size ≤ w8.heap.size := hq.size
      replace HTb := hide (HTb.out.below hq (by omega))
      replace Rt := hide (Rt.out.below hq (by omega))
      replace RF := hide (RF.out.below hq (by omega))
      replace RG := hide (RG.out.below hq (by omega))
      replace RR := hide (RR.out.below hq (by omega))
      replace HB := hide (HB.out.trans (hq.mono (by omega)))
      clear hq
      clear qc HRD
      obtain ⟨b0', o0', br', or', ci1, hA, lr1', lr2', qc, hrd⟩ := rr_two RR.out (show N < N + 1 by omega) HF.out.last
      obtain ⟨rfl, rfl⟩ : b0 = b0' ∧ o0 = o0' := by simpa using hA
      have HRD := hide hrd
      clear hrd hA
      go_wp2_with fail
      refine (a2Same_two _ (some ⟨(w1.heap.size + 1), 0, none⟩) ci1 2 _ _ _ _ kc kd _ HRD.out RG.out).mono ?_
      rintro e w9 ⟨rfl, hq⟩
      have hs_w9 : w8.heap.size ≤ w9.heap.size := hq.size
      replace HTb := hide (HTb.out.below hq (by omega))
      replace Rt := hide (Rt.out.below hq (by omega))
      replace RF := hide (RF.out.below hq (by omega))
      replace RG := hide (RG.out.below hq (by omega))
      replace RR := hide (RR.out.below hq (by omega))
      replace HB := hide (HB.out.trans (hq.mono (by omega)))
      clear hq
      clear qc HRD
      go_wp2_with fail
      refine (implRouteText_any (some ⟨b0, o0, none⟩) (N + 1) cr _ _ R HF.out.all HF.out.tot _ RR.out (by omega) HTb.out).mono ?_
      rintro e w10 ⟨rfl, hq⟩
      have hs_w10 : w9.heap.size ≤ w10.heap.size := hq.size
      replace HTb := hide (HTb.out.below hq (by omega))
      replace Rt := hide (Rt.out.below hq (by omega))
      replace RF := hide (RF.out.below hq (by omega))
      replace RG := hide (RG.out.below hq (by omega))
      replace RR := hide (RR.out.below hq (by omega))
      replace HB := hide (HB.out.trans (hq.mono (by omega)))
      clear hq
      obtain ⟨st, hst⟩ : ∃ z, rouS R = z := ⟨_, rfl⟩
      have hne := HF.out.ne
      rw [hst] at hne
      rw [hst]
      have hE : ¬ st.toList = [] := by
        rw [ByteArray.toList_eq]
        intro e
        exact hne (by cases st with | mk dt => simp at e; rw [e])
      have hE2 : st.toList.isEmpty = false := by simpa using hE
      clear hst
      go_wp2_with fail
      clear HTb
      go_loopw [16] (fun i wr => ∃ j : Nat, j ≤ N ∧ i = .int .i64 ((j : Int) + 1) ∧ Hid (Below w10.heap.size w10 wr)) (fun i _ => N + 1 - (intOf i).toNat)
      case atStart => exact ⟨0, by omega, by first | rfl | simp, hide (Below.refl _ _)⟩
      case round =>
        obtain ⟨j, hj, rfl, HL1⟩ := hrel
        generalize wr = wA at *
        have hq := HL1.out
        have hs_wA : w10.heap.size ≤ wA.heap.size := hq.size
        replace Rt := hide (Rt.out.below hq (by omega))
        replace RF := hide (RF.out.below hq (by omega))
        replace RG := hide (RG.out.below hq (by omega))
        replace RR := hide (RR.out.below hq (by omega))
        replace HB := hide (HB.out.trans (hq.mono (by omega)))
        clear hq
        by_cases hjn : j < N
        · obtain ⟨x, y, ex, hx, hy⟩ := HF.out.row j (by omega)
          obtain ⟨z, u, ez, hz, hu⟩ := HF.out.row (j + 1) (by omega)
          have hst := HF.out.step j hjn x y z u ex ez
          obtain ⟨b1', o1', br1, or1, cr1, hA1, _, _, qc1, hrd1⟩ := rr_two RR.out (show j < N + 1 by omega) ex
          obtain ⟨rfl, rfl⟩ : b0 = b1' ∧ o0 = o1' := by simpa using hA1
          obtain ⟨b2', o2', br2, or2, cr2, hA2, _, _, qc2, hrd2⟩ := rr_two RR.out (show j + 1 < N + 1 by omega) ez
          obtain ⟨rfl, rfl⟩ : b0 = b2' ∧ o0 = o2' := by simpa using hA2
          have R1 := hide hrd1
          have R2 := hide hrd2
          have HST := hide hst
          have HX := hide hx
          have HY := hide hy
          have HZ := hide hz
          have HU := hide hu
          clear hrd1 hrd2 hst hx hy hz hu hA1 hA2 ex ez
          go_wp2_with fail
          go_quiet ((go_at_call 12; with_reducible exact Calls.quiet_of (specStepAllowed_q At (some ⟨br1, or1, none⟩) (some ⟨br2, or2, none⟩) 24 ct cr1 cr2 _ _ _ _ _ _ T (by unfold maxLen; omega) OK.out x y z u HX.out HY.out HZ.out HU.out HST.out _ (RdSS.drewN Rt.out _) (RdDn R1.out _) (RdDn R2.out _))))
          go_wp2_with fail
          go_roundw
          case rel => exact ⟨j + 1, by omega, by first | rfl | go_num | simp, hide (HL1.out.trans (Joins.below_draws _ _ _))⟩
          case measure => first | (simp [intOf]; done) | (simp [intOf]; omega)
        · obtain rfl : j = N := by omega
          clear HL1
          clear RR
          go_wp2_with fail
          have hcd : codeL T [[(ka : Int), (kb : Int)]] = 0 := by rw [code_one OK.out da.out db.out, if_neg (by rw [HF0.out]; simp)]
          have HCD := hide hcd
          clear hcd
          refine (implLengthsFrom_any At (some ⟨w1.heap.size, 0, none⟩) 24 ct _ _ 2 2 _ _ T [(ka : Int), (kb : Int)] (by unfold maxLen; omega) rfl (by unfold maxLen; omega) _ Rt.out (by omega) RF.out (by omega)).mono ?_
          rintro e w11 ⟨va, rfl, hoa, hq⟩
          have hs_w11 : wA.heap.size ≤ w11.heap.size := hq.size
          replace Rt := hide (Rt.out.below hq (by omega))
          replace RF := hide (RF.out.below hq (by omega))
          replace RG := hide (RG.out.below hq (by omega))
          replace HB := hide (HB.out.trans (hq.mono (by omega)))
          clear hq
          obtain ⟨Aa, ca, rfl, hnca, hcma, hra⟩ := hoa.rd
          rw [lnL_yes HCD.out] at hra hnca
          rw [lnL_yes HCD.out, HCD.out]
          have HLF := hide (lens_facts da.out db.out HF0.out)
          obtain ⟨D, hD⟩ : ∃ z, lens T ((ka : Int), (kb : Int)) = z := ⟨_, rfl⟩
          have hD24 : D.length = 24 := by rw [← hD]; exact HLF.out.ok.1
          rw [hD] at HLF hra hnca E1
          rw [hD, hD24]
          rw [hD24] at hra hnca
          have RA := hide hra
          clear hra hoa
          have HDD := hide hD
          clear hD
          go_wp2_with fail
          go_loopw [21] (fun i wr => ∃ k : Nat, k ≤ 24 ∧ i = .int .i64 (k : Int) ∧ Hid (Below w11.heap.size w11 wr)) (fun i _ => 24 - (intOf i).toNat)
          case atStart => exact ⟨0, by omega, by first | rfl | simp, hide (Below.refl _ _)⟩
          case round =>
            obtain ⟨k, hk, rfl, HL2⟩ := hrel
            generalize wr = wB at *
            have hq := HL2.out
            have hs_wB : w11.heap.size ≤ wB.heap.size := hq.size
            replace Rt := hide (Rt.out.below hq (by omega))
            replace RF := hide (RF.out.below hq (by omega))
            replace RG := hide (RG.out.below hq (by omega))
            replace RA := hide (RA.out.below hq (by omega))
            replace HB := hide (HB.out.trans (hq.mono (by omega)))
            clear hq
            by_cases hk24 : k < 24
            · have x1 : (k : Int) < 24 := by omega
              have x2 : decide ((k : Int) < 24) = true := by simpa using x1
              obtain ⟨e0, p0, ea, pa, ga, rfl, _, _, _, _, qc, _⟩ := d_cells RA.out HLF.out.ok k hk24
              go_wp2_with fail
              go_roundw
              case rel => exact ⟨k + 1, by omega, by first | rfl | go_num | simp, HL2⟩
              case measure => first | (simp [intOf]; done) | (simp [intOf]; omega)
            · have e24 : (k : Int) = 24 := by omega
              rw [e24]
              clear e24 hk hk24
              clear HL2
              go_wp2_with fail
              go_loopw [19, 20, 22] (fun c m a wr => ∃ (k : Nat) (cv mv : Int), k ≤ 24 ∧ a = .int .i64 (k : Int) ∧ c = .int .i64 cv ∧ m = .int .i64 mv ∧ Hid (cv = (cntTo D k : Nat)) ∧ Hid (mv = max 0 (farTo D k).2) ∧ Hid (Below wB.heap.size wB wr)) (fun _ _ a _ => 24 - (intOf a).toNat)
              case atStart => exact ⟨0, 0, 0, by omega, by first | rfl | simp, rfl, rfl, hide rfl, hide rfl, hide (Below.refl _ _)⟩
              case round =>
                obtain ⟨k, cv, mv, hk, rfl, rfl, rfl, HCV, HMV, HL3⟩ := hrel
                generalize wr = wC at *
                have hq := HL3.out
                have hs_wC : wB.heap.size ≤ wC.heap.size := hq.size
                replace Rt := hide (Rt.out.below hq (by omega))
                replace RF := hide (RF.out.below hq (by omega))
                replace RG := hide (RG.out.below hq (by omega))
                replace RA := hide (RA.out.below hq (by omega))
                replace HB := hide (HB.out.trans (hq.mono (by omega)))
                clear hq
                have hcb := cntTo_le D k
                have hcvb : 0 ≤ cv ∧ cv ≤ 600 := by have := HCV.out; omega
                by_cases hk24 : k < 24
                · have x1 : (k : Int) < 24 := by omega
                  have x2 : decide ((k : Int) < 24) = true := by simpa using x1
                  go_wp2_with fail
                  go_loopw [19, 20, 23] (fun c m b wr => ∃ (j : Nat) (cw mw : Int), j ≤ 24 ∧ b = .int .i64 (j : Int) ∧ c = .int .i64 cw ∧ m = .int .i64 mw ∧ Hid (cw = (cntTo D k + cntIn D k j : Nat)) ∧ Hid (mw = max 0 (farIn D k (farTo D k) j).2) ∧ Hid (Below wC.heap.size wC wr)) (fun _ _ b _ => 24 - (intOf b).toNat)
                  case atStart => exact ⟨0, cv, mv, by omega, by first | rfl | simp, rfl, rfl, hide (by rw [HCV.out]; rfl), hide (by rw [HMV.out]; rfl), hide (Below.refl _ _)⟩
                  case round =>
                    obtain ⟨j, cw, mw, hj, rfl, rfl, rfl, HCW, HMW, HL4⟩ := hrel
                    generalize wr = wE at *
                    have hq := HL4.out
                    have hs_wE : wC.heap.size ≤ wE.heap.size := hq.size
                    replace Rt := hide (Rt.out.below hq (by omega))
                    replace RF := hide (RF.out.below hq (by omega))
                    replace RG := hide (RG.out.below hq (by omega))
                    replace RA := hide (RA.out.below hq (by omega))
                    replace HB := hide (HB.out.trans (hq.mono (by omega)))
                    replace HL3 := hide (HL3.out.trans (hq.mono (by omega)))
                    clear hq
                    have hcw := cntIn_le D k j
                    have hcwb : 0 ≤ cw ∧ cw ≤ 700 := by have := HCW.out; omega
                    by_cases hj24 : j < 24
                    · have x3 : (j : Int) < 24 := by omega
                      have x4 : decide ((j : Int) < 24) = true := by simpa using x3
                      obtain ⟨e0, p0, ea, pa, ga, rfl, _, _, _, _, qc, qd⟩ := d_cells RA.out HLF.out.ok k hk24
                      have qd1 := qd j hj24
                      clear qd
                      have hbd := HLF.out.bd (k : Int) (j : Int) ⟨by omega, by omega⟩ ⟨by omega, by omega⟩
                      obtain ⟨dv, hdv⟩ : ∃ z, dget D (k : Int) (j : Int) = z := ⟨_, rfl⟩
                      rw [hdv] at qd1 hbd
                      have HDV := hide hdv
                      clear hdv
                      by_cases hneg : dv < 0
                      · go_wp2_with fail
                        go_roundw
                        case rel => exact ⟨j + 1, cw, mw, by omega, by first | rfl | go_num | simp, rfl, rfl, hide (by rw [cnt_no (by rw [HDV.out]; exact hneg)]; exact HCW.out), hide (by rw [most_no (by rw [HDV.out]; exact hneg)]; exact HMW.out), HL4⟩
                        case measure => first | (simp [intOf]; done) | (simp [intOf]; omega)
                      · have hpos : 0 ≤ dv := by omega
                        go_wp2_with fail
                        obtain ⟨w12, hW⟩ : ∃ W : World, W = wE.alloc (.cells #[.int .i64 (k : Int), .int .i64 (j : Int)] 2) := ⟨_, rfl⟩
                        rw [← hW]
                        have hs_w12 : w12.heap.size = wE.heap.size + 1 := by rw [hW]; simp
                        have hq : Below wE.heap.size wE w12 := by rw [hW]; exact (Below.refl _ _).alloc (Nat.le_refl _) _
                        replace Rt := hide (Rt.out.below hq (by omega))
                        replace RF := hide (RF.out.below hq (by omega))
                        replace RG := hide (RG.out.below hq (by omega))
                        replace RA := hide (RA.out.below hq (by omega))
                        replace HB := hide (HB.out.trans (hq.mono (by omega)))
                        replace HL3 := hide (HL3.out.trans (hq.mono (by omega)))
                        replace HL4 := hide (HL4.out.trans (hq.mono (by omega)))
                        clear hq
                        have RS := hide (show Rd w12 wE.heap.size (wE.heap.size + 1) 1 (some ⟨wE.heap.size, 0, none⟩) 2 (rInt64 [(k : Int), (j : Int)]) by rw [hW]; exact rd_lit wE #[.int .i64 (k : Int), .int .i64 (j : Int)] _ 2 rfl)
                        clear hW
                        have hkd : dirOk (k : Int) := ⟨by omega, by omega⟩
                        have hjd : dirOk (j : Int) := ⟨by omega, by omega⟩
                        have hco : codeL T [[(k : Int), (j : Int)]] = 0 := by rw [code_one OK.out hkd hjd, if_neg (by rw [HLF.out.free _ _ hkd hjd (by rw [HDV.out]; exact hpos)]; simp)]
                        have HCO := hide hco
                        have HKD := hide hkd
                        have HJD := hide hjd
                        clear hco hkd hjd
                        refine (specStepsFrom_any At (some ⟨wE.heap.size, 0, none⟩) 24 ct _ _ 2 2 _ _ T [(k : Int), (j : Int)] (by unfold maxLen; omega) rfl (by unfold maxLen; omega) _ Rt.out (by omega) RS.out (by omega)).mono ?_
                        rintro e w13 ⟨vs, rfl, hos, hq⟩
                        have hs_w13 : w12.heap.size ≤ w13.heap.size := hq.size
                        replace Rt := hide (Rt.out.below hq (by omega))
                        replace RF := hide (RF.out.below hq (by omega))
                        replace RG := hide (RG.out.below hq (by omega))
                        replace RA := hide (RA.out.below hq (by omega))
                        replace RS := hide (RS.out.below hq (by omega))
                        replace HB := hide (HB.out.trans (hq.mono (by omega)))
                        replace HL3 := hide (HL3.out.trans (hq.mono (by omega)))
                        replace HL4 := hide (HL4.out.trans (hq.mono (by omega)))
                        clear hq
                        obtain ⟨As, cs, rfl, hncs, hcms, hrs⟩ := hos.rd
                        rw [HCO.out]
                        obtain ⟨n2, hn2⟩ : ∃ z, (stL T [(k : Int), (j : Int)]).length = z := ⟨_, rfl⟩
                        have hn2b := stL_len T [(k : Int), (j : Int)]
                        rw [hn2] at hncs hrs hn2b
                        rw [hn2]
                        have HN2 := hide hn2
                        have RQ := hide hrs
                        clear hn2 hrs hos
                        clear RS
                        go_wp2_with fail
                        go_loopw [26] (fun i wr => ∃ q : Nat, q ≤ n2 ∧ i = .int .i64 (q : Int) ∧ Hid (Below w13.heap.size w13 wr)) (fun i _ => n2 - (intOf i).toNat)
                        case atStart => exact ⟨0, by omega, by first | rfl | simp, hide (Below.refl _ _)⟩
                        case round =>
                          obtain ⟨q, hq2, rfl, HL5⟩ := hrel
                          generalize wr = wG at *
                          have hq := HL5.out
                          have hs_wG : w13.heap.size ≤ wG.heap.size := hq.size
                          replace Rt := hide (Rt.out.below hq (by omega))
                          replace RF := hide (RF.out.below hq (by omega))
                          replace RG := hide (RG.out.below hq (by omega))
                          replace RA := hide (RA.out.below hq (by omega))
                          replace RQ := hide (RQ.out.below hq (by omega))
                          replace HB := hide (HB.out.trans (hq.mono (by omega)))
                          replace HL3 := hide (HL3.out.trans (hq.mono (by omega)))
                          replace HL4 := hide (HL4.out.trans (hq.mono (by omega)))
                          clear hq
                          by_cases hqn : q < n2
                          · have x5 : (q : Int) < (n2 : Int) := by omega
                            have hmem : (stL T [(k : Int), (j : Int)]).getD q [] ∈ stL T [(k : Int), (j : Int)] := by rw [show (stL T [(k : Int), (j : Int)]).getD q [] = (stL T [(k : Int), (j : Int)])[q]'(by rw [HN2.out]; exact hqn) by simp [List.getD, HN2.out, hqn]]; exact List.getElem_mem _
                            obtain ⟨c, d, ecd, hc, hd, hnx⟩ := st_rows HCO.out hmem
                            have hnear := HLF.out.near _ _ c d HKD.out HJD.out (by rw [HDV.out]; exact hpos) hnx
                            rw [HDV.out] at hnear
                            clear hmem hnx
                            obtain ⟨s0, t0, br1, or1, cr1, rfl, _, _, qs, hrd1⟩ := rr_two RQ.out hqn ecd
                            obtain ⟨g0, g1⟩ := st_two hrd1
                            clear hrd1 ecd
                            obtain ⟨hc0, hc1⟩ := hc
                            obtain ⟨hd0, hd1⟩ := hd
                            obtain ⟨mc, rfl⟩ : ∃ z : Nat, c = z := ⟨c.toNat, by omega⟩
                            obtain ⟨md, rfl⟩ : ∃ z : Nat, d = z := ⟨d.toNat, by omega⟩
                            obtain ⟨e0', p0', eb, pb, gb, hA', _, _, _, _, qe, qf⟩ := d_cells RA.out HLF.out.ok mc (by omega)
                            obtain ⟨rfl, rfl⟩ : e0 = e0' ∧ p0 = p0' := by simpa using hA'
                            have qf1 := qf md (by omega)
                            clear qf hA'
                            have hbd2 := HLF.out.bd (mc : Int) (md : Int) ⟨by omega, by omega⟩ ⟨by omega, by omega⟩
                            generalize dget D (mc : Int) (md : Int) = xv at *
                            obtain ⟨hn1, hn2'⟩ := hnear
                            obtain ⟨_, _, ea', pa', ga', hA3, _, _, _, _, qc5, qd5⟩ := d_cells RA.out HLF.out.ok k hk24
                            simp only [Option.some.injEq, Addr.mk.injEq, and_true] at hA3
                            obtain ⟨rfl, rfl⟩ := hA3
                            have qd6 := qd5 j hj24
                            rw [HDV.out] at qd6
                            clear qd5
                            go_wp2_with fail
                            go_quiet (fail)
                            clear qs g0 g1 qe qf1 qc5 qd6
                            have hq : Below wG.heap.size wG (wG.drewN nq) := Joins.below_draws _ _ _
                            have hs_w14 : (wG.drewN nq).heap.size = wG.heap.size := rfl
                            replace Rt := hide (Rt.out.below hq (by omega))
                            replace RF := hide (RF.out.below hq (by omega))
                            replace RG := hide (RG.out.below hq (by omega))
                            replace RA := hide (RA.out.below hq (by omega))
                            replace RQ := hide (RQ.out.below hq (by omega))
                            replace HB := hide (HB.out.trans (hq.mono (by omega)))
                            replace HL3 := hide (HL3.out.trans (hq.mono (by omega)))
                            replace HL4 := hide (HL4.out.trans (hq.mono (by omega)))
                            replace HL5 := hide (HL5.out.trans (hq.mono (by omega)))
                            clear hq
                            generalize (wG.drewN nq) = w14 at *
                            obtain ⟨_, _, eb2, pb2, gb2, hA4, _, _, _, _, qc7, qd7⟩ := d_cells RA.out HLF.out.ok k hk24
                            simp only [Option.some.injEq, Addr.mk.injEq, and_true] at hA4
                            obtain ⟨rfl, rfl⟩ := hA4
                            have qd8 := qd7 j hj24
                            rw [HDV.out] at qd8
                            clear qd7
                            have t1 : decide (xv < dv - 1) = false := by simp; omega
                            have t2 : decide (xv > dv + 1) = false := by simp; omega
                            have t3 : decide (dv + 1 < xv) = false := by simp; omega
                            go_wp2_with fail
                            go_roundw
                            case rel => exact ⟨q + 1, by omega, by first | rfl | go_num | simp, HL5⟩
                            case measure => first | (simp [intOf]; done) | (simp [intOf]; omega)
                          · obtain rfl : q = n2 := by omega
                            clear HL5
                            go_wp2_with fail
                            go_roundw
                            case rel => exact ⟨j + 1, cw + 1, max mw dv, by omega, by first | rfl | go_num | simp, by first | rfl | go_num, by first | rfl | simp, hide (by rw [cnt_yes (by rw [HDV.out]; exact hpos)]; have := HCW.out; omega), hide (by rw [most_yes (by rw [HDV.out]; exact hpos), HDV.out, ← HMW.out]), HL4⟩
                            case measure => first | (simp [intOf]; done) | (simp [intOf]; omega)
                    · obtain rfl : j = 24 := by omega
                      clear HL4
                      go_wp2_with fail
                      go_roundw
                      case rel => exact ⟨k + 1, cw, mw, by omega, by first | rfl | go_num | simp, rfl, rfl, HCW, HMW, HL3⟩
                      case measure => first | (simp [intOf]; done) | (simp [intOf]; omega)
                · obtain rfl : k = 24 := by omega
                  clear HL3
                  go_wp2_with fail
                  refine (implCountReached_any At (some ⟨w1.heap.size, 0, none⟩) 24 ct _ _ 2 2 _ _ T [(ka : Int), (kb : Int)] (by unfold maxLen; omega) rfl (by unfold maxLen; omega) _ Rt.out (by omega) RF.out (by omega)).mono ?_
                  rintro e w12 ⟨rfl, hq⟩
                  have hs_w12 : wC.heap.size ≤ w12.heap.size := hq.size
                  replace Rt := hide (Rt.out.below hq (by omega))
                  replace RF := hide (RF.out.below hq (by omega))
                  replace RG := hide (RG.out.below hq (by omega))
                  replace RA := hide (RA.out.below hq (by omega))
                  replace HB := hide (HB.out.trans (hq.mono (by omega)))
                  clear hq
                  rw [show (crcP T [(ka : Int), (kb : Int)]).1 = cv by rw [crc_yes HCD.out, HDD.out, HCV.out], show (crcP T [(ka : Int), (kb : Int)]).2 = 0 by rw [crc_yes HCD.out]]
                  go_wp2_with fail
                  refine (implFarthestState_any At (some ⟨w1.heap.size, 0, none⟩) 24 ct _ _ 2 2 _ _ T [(ka : Int), (kb : Int)] (by unfold maxLen; omega) rfl (by unfold maxLen; omega) _ Rt.out (by omega) RF.out (by omega)).mono ?_
                  rintro e w13 ⟨vf, rfl, hof, hq⟩
                  have hs_w13 : w12.heap.size ≤ w13.heap.size := hq.size
                  replace Rt := hide (Rt.out.below hq (by omega))
                  replace RF := hide (RF.out.below hq (by omega))
                  replace RG := hide (RG.out.below hq (by omega))
                  replace RA := hide (RA.out.below hq (by omega))
                  replace HB := hide (HB.out.trans (hq.mono (by omega)))
                  clear hq
                  obtain ⟨Af, cf, rfl, hncf, hcmf, hrf⟩ := hof.rd
                  obtain ⟨fy1, fy2⟩ := far_yes HCD.out
                  rw [HDD.out] at fy1 fy2
                  obtain ⟨f0, fa, fb, fe⟩ := HLF.out.far
                  have hmv := HMV.out
                  obtain ⟨⟨⟨s0, s1⟩, sm⟩, hsm⟩ : ∃ z, farTo D 24 = z := ⟨_, rfl⟩
                  rw [hsm] at fy1 fy2 f0 fa fb fe hmv
                  simp only at f0 fa fb fe hmv fy1 fy2
                  have fy3 : (farL T [(ka : Int), (kb : Int)]).length = 2 := by rw [fy1]; rfl
                  rw [fy3, fy1] at hrf
                  rw [fy3, fy2, HCD.out]
                  clear fy1 fy2 fy3 hof hncf hsm
                  obtain rfl : mv = sm := by omega
                  clear hmv
                  obtain ⟨fa0, fa1⟩ := fa
                  obtain ⟨fb0, fb1⟩ := fb
                  obtain ⟨ms, rfl⟩ : ∃ z : Nat, s0 = z := ⟨s0.toNat, by omega⟩
                  obtain ⟨mt, rfl⟩ : ∃ z : Nat, s1 = z := ⟨s1.toNat, by omega⟩
                  obtain ⟨bf, of_, rfl, _, _, k0, k1⟩ := st_cells hrf
                  clear hrf
                  obtain ⟨f0', f1'⟩ := st_two RF.out
                  obtain ⟨g0', g1'⟩ := st_two RG.out
                  obtain ⟨e0, p0, ea, pa, ga, rfl, _, _, _, _, qa, qa1⟩ := d_cells RA.out HLF.out.ok kc hkc
                  have qa2 := qa1 kd hkd
                  rw [E1.out] at qa2
                  clear qa1
                  obtain ⟨e2, p2, eb, pb, gb, hA2, _, _, _, _, qb, qb1⟩ := d_cells RA.out HLF.out.ok ka hka
                  obtain ⟨rfl, rfl⟩ : e0 = e2 ∧ p0 = p2 := by simpa using hA2
                  have qb2 := qb1 kb hkb
                  rw [HLF.out.start] at qb2
                  clear qb1 hA2
                  obtain ⟨e3, p3, ec, pc, gc, hA3, _, _, _, _, qs, qs1⟩ := d_cells RA.out HLF.out.ok ms (by omega)
                  obtain ⟨rfl, rfl⟩ : e0 = e3 ∧ p0 = p3 := by simpa using hA3
                  have qs2 := qs1 mt (by omega)
                  rw [fe] at qs2
                  clear qs1 hA3 fe
                  have y1 : (ms : Int) < 24 := by omega
                  have y2 : decide ((ms : Int) < 24) = true := by simpa using y1
                  have y3 : (mt : Int) < 24 := by omega
                  have y4 : decide ((mt : Int) < 24) = true := by simpa using y3
                  go_wp2_with fail
                  clear RF RG RA Rt HF HLF HDD HCD HF0 HNN HCC HCV HMV E1 da db dc dd OK
                  as_aux_lemma =>
                    (try simp only [List.append_eq, List.cons_append, List.nil_append])
                    go_quiet (fail)
                    go_wp2_with fail
                    go_ret
                    exact ⟨rfl, HB.out.trans (Joins.below_draws _ _ _)⟩
    · have ub := rt_bad OK.out da.out db.out dc.out dd.out (by rw [HCC.out]; exact h0)
      rw [HCC.out] at ub
      rcases ub with rfl | ⟨rfl, hor⟩
      · go_wp2_with fail
        go_quiet (fail)
        go_wp2_with fail
        go_ret
        exact ⟨rfl, HB.out.trans (Joins.below_draws _ _ _)⟩
      · obtain ⟨f0, f1⟩ := st_two RF.out
        obtain ⟨g0, g1⟩ := st_two RG.out
        obtain ⟨b0, o0, bx, ox, cx, rfl, hbx0, hbx1, hcx, hrx⟩ := tab_row Rt.out OK.out ka hka
        have d1 := hrx kb hkb
        obtain ⟨b2, o2, bz, oz, cz, hA2, hbz0, hbz1, hcz, hrz⟩ := tab_row Rt.out OK.out kc hkc
        obtain ⟨rfl, rfl⟩ : b0 = b2 ∧ o0 = o2 := by simpa using hA2
        have d2 := hrz kd hkd
        clear hrx hrz hA2
        cases hf : tg T ka kb
        · have hg : tg T kc kd = true := by rw [hf] at hor; simpa using hor
          rw [hf] at d1
          rw [hg] at d2
          clear hor hf hg
          go_wp2_with fail
          go_quiet (fail)
          go_wp2_with fail
          go_ret
          exact ⟨rfl, HB.out.trans (Joins.below_draws _ _ _)⟩
        · rw [hf] at d1
          clear hor hf
          go_wp2_with fail
          go_quiet (fail)
          go_wp2_with fail
          go_ret
          exact ⟨rfl, HB.out.trans (Joins.below_draws _ _ _)⟩
  · have HR0 := hide hr0
    have HR1 := hide hr1
    clear hr0 hr1 hw0 hw1 hl0 hl1
    go_enter Tryd.func3, Tryd.ntmps3
    go_wp2_with fail
    refine (a2Long_yes A0 A1 n0 c0 n1 c1 (by omega) _).mono ?_
    rintro e w' ⟨rfl, rfl⟩
    go_wp2_with fail
    go_ret
    exact ⟨rfl, Below.refl _ _⟩

theorem door_met (os : Os) (args : Array Value) : laidMetH Tryd.prog Rows.fnRoutesRow.laid ((World.doorLaid Tryd.prog 4000 os).forCall (fun _ _ => 0) ⟨#[], args, []⟩).memory := by
  rw [MakeChecks.laidMetH_plain _ _ _ (by kernel_rfl)]
  exact laidMet_of_run' 8 (by kernel_rfl) (by kernel_rfl)
theorem tb_of {W : World} (h : laidMetH Tryd.prog Rows.fnRoutesRow.laid W) : Tb W := by
  rw [MakeChecks.laidMetH_plain _ _ _ (by kernel_rfl)] at h
  exact Lib.tabIs_of_head (g := 0) (t := 122) (e := 68) (n := 20) (by kernel_rfl) (by kernel_rfl) (by kernel_rfl) (by kernel_rfl) (by kernel_rfl) (by kernel_rfl) (show laidMet Tryd.prog (_ :: _) W from h.tail.tail)
set_option maxRecDepth 100000 in
theorem lifted (os : Os) (started : os.Started) (H : Type) (enc : TypeId × Value → H) :
    ReturnsInHanded {} Tryd.checked os 3 .any (fun w args => (Rows.fnRoutesSpec.pre enc Tryd.prog Tryd.f3 Rows.fnRoutesRow.domain false w args ∧ laidMetH Tryd.prog Rows.fnRoutesRow.laid w) ∧ sizedMet enc Tryd.prog Tryd.f3 (OpenSpec.ofChange Rows.fnRoutesSpec) false w args)
      (Rows.fnRoutesSpec.post enc Tryd.prog Tryd.f3 false true false false) := by
  refine returnsInHanded_of_change_and (C := Tryd.checked) (X := fun w _ => laidMetH Tryd.prog Rows.fnRoutesRow.laid w) (fun _ _ _ hh h => h.of_heap hh) own started (by kernel_rfl) Tryd.func3
    (ChangeSpec.witness_shaped (enc := enc) (C := Tryd.checked) (os := os) (X := fun w _ => laidMetH Tryd.prog Rows.fnRoutesRow.laid w) false (World.doorLaid Tryd.prog 4000 os) #[.slice none 0 0, .slice none 0 0] 8 rfl (World.shaped_of_RefB (by kernel_rfl) (by kernel_rfl)) (by kernel_rfl) (by kernel_rfl) (by kernel_rfl) (door_met os _)) ?_
  intro W base args ds gs before hval0 hW _ _ hL _
  have hval : ∀ (j : Nat) t v, Tryd.f3.params[j]? = some t → args[j]? = some v → Value.okWide Tryd.prog W .any base t v := hval0
  have hW' := hW
  obtain ⟨p, q, hA0, hV, rfl, hfz, hnd⟩ := hW
  have hA : DataW.TrodAll enc Tryd.prog W 0 (fun _ => true) true Tryd.f3.params.toList args.toList ds p := hA0
  rw [Tryd.params3] at hA hval
  obtain ⟨v0, vs0, d0, ds0, p0, q0, hargs, rfl, rfl, h0, r0⟩ := trodAll_cons hA
  obtain ⟨v1, vs1, d1, ds1, p1, q1, rfl, rfl, rfl, h1, r1⟩ := trodAll_cons r0
  obtain ⟨rfl, rfl, rfl⟩ := trodAll_nil r1
  obtain rfl : args = #[v0, v1] := by cases args; simp_all
  obtain ⟨rfl, rfl⟩ := trodVars_none hV
  obtain ⟨A0, n0, c0, l0, rfl, hnc0, hcm0, hl0, hr0, hw0⟩ := open_ByteS (hval 0 22 v0 rfl rfl) h0
  obtain ⟨A1, n1, c1, l1, rfl, hnc1, hcm1, hl1, hr1, hw1⟩ := open_ByteS (hval 1 22 v1 rfl rfl) h1
  clear hA0 hval0
  refine (walk W A0 n0 c0 l0 hl0 (Nat.le_trans hnc0 hcm0) hr0 hw0 A1 n1 c1 l1 hl1 (Nat.le_trans hnc1 hcm1) hr1 hw1 (tb_of hL)).mono fun e W' ⟨he, hB⟩ => ?_
  subst he
  exact ⟨_, rfl, law_post laidOut Tryd.underlying4 rfl (by kernel_rfl) (by kernel_rfl) hW' rfl rfl rfl hB⟩

theorem proved : Rows.FnRoutesSaid :=
  OpenClaim.holds_of_wide 3 Tryd.f3 rfl rfl rfl rfl rfl rfl rfl ⟨rfl, rfl, rfl, rfl, rfl⟩ rfl rfl rfl rfl rfl (by kernel_rfl) Tryd.func3 (joined rfl rfl rfl (by kernel_rfl))
    (of_decide_eq_true (by kernel_rfl)) (by unfold Func.isWrapper; first | (rw [if_pos (by decide +kernel)]; kernel_rfl) | (rw [if_neg (by decide +kernel)]; exact ⟨rfl, rfl⟩))
    (fun os started H enc _ => lifted os started H enc)
theorem carded : Rows.FnRoutesCardSaid :=
  Claim7.holds_tied_plain_at .later [] [.data, .data, .data] true (true, "053c3b117b1a9cf48653ecfec059bae32ff958cc1c877dece31aba6ff6bd23c2") false
    proved (fun _ h => by cases h) (by kernel_rfl) (fun _ h => by cases h) fnRoutes_row_tie rfl ⟨rfl, rfl⟩ (by kernel_rfl) rfl
    (fun f fn hf hfn => by
      obtain rfl : f = 3 := Option.some.inj ((show Tryd.prog.funcNamed "loop.example/g00932/laws.FnRoutes" = some 3 by kernel_rfl).symm.trans hf) |>.symm
      obtain rfl : fn = Tryd.f3 := (Option.some.inj (Tryd.func3.symm.trans hfn)).symm
      exact ⟨by kernel_rfl, fun j t ht => by
        rw [Tryd.params3] at ht
        have hm : t ∈ [22, 22] := by simpa using Array.mem_of_getElem? ht
        have hall : ([22, 22].all fun u => !Tryd.prog.wantsStandIn u) = true := by kernel_rfl
        exact (show Tryd.prog.wantsStandIn t = false by simpa using List.all_eq_true.1 hall t hm)⟩)
    (by kernel_rfl)
#print axioms carded
end fnRoutes
end Go.Proofs.YtnbahmjimnhfbaaDoor
