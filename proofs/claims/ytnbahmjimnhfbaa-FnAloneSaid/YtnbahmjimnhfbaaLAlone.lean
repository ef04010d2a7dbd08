/-
  FnAlone: the law answers true at every input, and the input reads behind the call as it read before. No condition.
-/
import Derived.Test.YtnbahmjimnhfbaaFrame
import Derived.Test.YtnbahmjimnhfbaaFacts
import Derived.WalkKit
import Derived.WalkSpells
import Derived.WalkLawsBesides
import Derived.Deep.RegionWith
import Derived.Deep.DeepCutAuto
import Derived.Test.YtnbahmjimnhfbaaOpnByte
import Derived.Test.YtnbahmjimnhfbaaA2
import Derived.Test.YtnbahmjimnhfbaaAloneL
namespace Go.Proofs.Ytnbahmjimnhfbaa
open Go.ChangeShapes Go.WideShapes Go.ChangeAt Go.RowKit
namespace fnAlone
set_option linter.unusedVariables false
set_option linter.unusedSimpArgs false
set_option maxRecDepth 100000 in
set_option maxHeartbeats 4000000 in
theorem walk (w : World) (A0 : Option Addr) (n0 c0 : Nat) (l0 : List (Int)) (hl0 : l0.length = n0) (hm0 : n0 ≤ maxLen) (hr0 : Rd w 0 w.heap.size 1 A0 n0 (rByte l0)) (hw0 : ∀ p ∈ l0, (Lit.int .u8 p).wf = true) (A1 : Option Addr) (n1 c1 : Nat) (l1 : List (Int)) (hl1 : l1.length = n1) (hm1 : n1 ≤ maxLen) (hr1 : Rd w 0 w.heap.size 1 A1 n1 (rByte l1)) (hw1 : ∀ p ∈ l1, (Lit.int .u8 p).wf = true) :
    Calls Try.prog 4 #[.slice A0 n0 c0, .slice A1 n1 c1] w fun e w' => e = .returned (.bool true) ∧ Below w.heap.size w w' := by
  by_cases hn0 : n0 ≤ 3000 ∧ n1 ≤ 3000
  · obtain ⟨hn0, hn1⟩ := hn0
    have hv0 := rByte_u8 hw0
    have hv1 := rByte_u8 hw1
    have HV0 := hide hv0
    have HV1 := hide hv1
    clear hw0 hw1 hv0 hv1 hl0 hl1
    go_enter Try.func4, Try.ntmps4
    go_wp2_with fail
    refine (a2Long_no A0 A1 n0 c0 n1 c1 hn0 hn1 _).mono ?_
    rintro e w' ⟨rfl, rfl⟩
    go_wp2_with fail
    refine (A2Table_g A0 n0 c0 w.heap.size _ hm0 _ hr0 (Nat.le_refl _) HV0.out).mono ?_
    rintro e w1 ⟨v, rfl, hv, hb1⟩
    have hs1 := hb1.size
    have HB1 := hide hb1
    replace hr1 := hr1.below hb1 (Nat.le_refl _)
    obtain ⟨At, nt, ct, T, rfl, hmt, ok, hrt⟩ := hv.okT
    obtain rfl := tab_n hrt ok
    have OK := hide ok
    have HRT := hide hrt
    clear hb1 hr0 hv ok hrt
    go_wp2_with fail
    refine (a2At_any A1 n1 c1 0 w.heap.size _ 0 (by omega) hm1 _ hr1 HV1.out).mono ?_
    rintro e w' ⟨ka, hka, rfl, hw⟩
    obtain rfl := hw
    go_wp2_with fail
    refine (a2At_any A1 n1 c1 0 w.heap.size _ 1 (by omega) hm1 _ hr1 HV1.out).mono ?_
    rintro e w' ⟨kb, hkb, rfl, hw⟩
    obtain rfl := hw
    go_wp2_with fail
    obtain ⟨W2, hW2⟩ : ∃ W : World, W = w1.alloc (.cells #[.int .i64 ka, .int .i64 kb] 2) := ⟨_, rfl⟩
    rw [← hW2]
    have hs2 : W2.heap.size = w1.heap.size + 1 := by rw [hW2]; simp
    have HF := hide (show Rd W2 w1.heap.size (w1.heap.size + 1) 1 (some ⟨w1.heap.size, 0, none⟩) 2 (rInt64 [(ka : Int), (kb : Int)]) by rw [hW2]; exact rd_lit2 _ _ _ _)
    have HB2 := hide (show Below w.heap.size w W2 by rw [hW2]; exact HB1.out.alloc (by omega) _)
    have HRT2 := hide (show RdSS W2 w.heap.size w1.heap.size At 24 (rrBool T) by rw [hW2]; exact HRT.out.below ((Below.refl _ _).alloc (Nat.le_refl _) _) (Nat.le_refl _))
    have HR1 := hide (show Rd W2 0 w.heap.size 1 A1 n1 (rByte l1) by rw [hW2]; exact hr1.below ((Below.refl _ _).alloc (Nat.le_refl _) _) (by omega))
    clear hW2 HB1 HRT hr1
    refine (a2At_any A1 n1 c1 0 w.heap.size _ 2 (by omega) hm1 _ HR1.out HV1.out).mono ?_
    rintro e w' ⟨kt, hkt, rfl, hw⟩
    obtain rfl := hw
    clear HR1 HV1 HV0
    go_wp2_with fail
    have da : dirOk (ka : Int) := ⟨by omega, by omega⟩
    have db : dirOk (kb : Int) := ⟨by omega, by omega⟩
    have dt : dirOk (kt : Int) := ⟨by omega, by omega⟩
    have D := hide (And.intro da (And.intro db dt))
    clear da db dt
    refine (implAloneRoute_any At (some ⟨w1.heap.size, 0, none⟩) 24 ct w.heap.size w1.heap.size 2 2 w1.heap.size (w1.heap.size + 1) T [(ka : Int), (kb : Int)] kt (by unfold maxLen; omega) rfl (by unfold maxLen; omega) _ HRT2.out (by omega) HF.out (by omega)).mono ?_
    rintro e w3 ⟨rfl, hb3⟩
    have hs3 := hb3.size
    have HF3 := hide (HF.out.below hb3 (by omega))
    have HRT3 := hide (HRT2.out.below hb3 (by omega))
    have HB3 := hide (HB2.out.trans (hb3.mono (by omega)))
    clear hb3 HB2 HRT2 HF
    obtain ⟨f0, f1⟩ : w3.cell? ⟨w1.heap.size, 0, none⟩ = some (.int .i64 ka) ∧ w3.cell? ⟨w1.heap.size, 1, none⟩ = some (.int .i64 kb) := by
      obtain ⟨b, off, e, _, _, k0, k1⟩ := st_cells HF3.out
      simp only [Option.some.injEq, Addr.mk.injEq] at e
      obtain ⟨rfl, rfl, _⟩ := e
      exact ⟨k0, k1⟩
    go_wp2_with fail
    obtain ⟨W4, hW4⟩ : ∃ W : World, W = w3.alloc (.cells #[.int .i64 kt, .int .i64 kb] 2) := ⟨_, rfl⟩
    rw [← hW4]
    have hs4 : W4.heap.size = w3.heap.size + 1 := by rw [hW4]; simp
    have HG := hide (show Rd W4 w3.heap.size (w3.heap.size + 1) 1 (some ⟨w3.heap.size, 0, none⟩) 2 (rInt64 [(kt : Int), (kb : Int)]) by rw [hW4]; exact rd_lit2 _ _ _ _)
    have h34 : Below w3.heap.size w3 W4 := by rw [hW4]; exact (Below.refl _ _).alloc (Nat.le_refl _) _
    clear hW4 f0 f1
    have HF4 := hide (HF3.out.below h34 (by omega))
    have HRT4 := hide (HRT3.out.below h34 (by omega))
    have HB4 := hide (HB3.out.trans (h34.mono (by omega)))
    clear h34 HB3 HRT3 HF3
    refine (specRouteLength_any At (some ⟨w1.heap.size, 0, none⟩) (some ⟨w3.heap.size, 0, none⟩) 24 ct w.heap.size w1.heap.size 2 2 w1.heap.size (w1.heap.size + 1) 2 2 w3.heap.size (w3.heap.size + 1) T [(ka : Int), (kb : Int)] [(kt : Int), (kb : Int)] (by unfold maxLen; omega) rfl (by unfold maxLen; omega) rfl (by unfold maxLen; omega) _ HRT4.out (by omega) HF4.out (by omega) HG.out (by omega)).mono ?_
    rintro e w5 ⟨rfl, hb5⟩
    have hs5 := hb5.size
    have HF5 := hide (HF4.out.below hb5 (by omega))
    have HRT5 := hide (HRT4.out.below hb5 (by omega))
    have HB5 := hide (HB4.out.trans (hb5.mono (by omega)))
    clear hb5 HB4 HRT4 HF4 HG
    go_wp2_with fail
    refine (implStepsFrom_any At (some ⟨w1.heap.size, 0, none⟩) 24 ct w.heap.size w1.heap.size 2 2 w1.heap.size (w1.heap.size + 1) T [(ka : Int), (kb : Int)] (by unfold maxLen; omega) rfl (by unfold maxLen; omega) _ HRT5.out (by omega) HF5.out (by omega)).mono ?_
    rintro e w6 ⟨vs, rfl, hos, hb6⟩
    have hs6 := hb6.size
    have HF6 := hide (HF5.out.below hb6 (by omega))
    have HRT6 := hide (HRT5.out.below hb6 (by omega))
    have HB6 := hide (HB5.out.trans (hb6.mono (by omega)))
    obtain ⟨As, cs, rfl, hncs, hcms, hrs⟩ := hos.rd
    obtain ⟨N, hN⟩ : ∃ N, (stL T [(ka : Int), (kb : Int)]).length = N := ⟨_, rfl⟩
    rw [hN] at hncs hrs
    rw [hN]
    have HN := hide hN
    clear hN
    have HRS := hide hrs
    clear hb6 HB5 HRT5 HF5 hos hrs
    obtain ⟨f0, f1⟩ : w6.cell? ⟨w1.heap.size, 0, none⟩ = some (.int .i64 ka) ∧ w6.cell? ⟨w1.heap.size, 1, none⟩ = some (.int .i64 kb) := by
      obtain ⟨b, off, e, _, _, k0, k1⟩ := st_cells HF6.out
      simp only [Option.some.injEq, Addr.mk.injEq] at e
      obtain ⟨rfl, rfl, _⟩ := e
      exact ⟨k0, k1⟩
    obtain ⟨b0, o0, bx, ox, cx, rfl, hbx0, hbx1, hcx, hrx⟩ := tab_row HRT6.out OK.out ka hka
    have d1 := hrx kb hkb
    clear hrx
    obtain ⟨u1, hu1⟩ : ∃ z, (alP T [(ka : Int), (kb : Int)] kt).1 = z := ⟨_, rfl⟩
    obtain ⟨u2, hu2⟩ : ∃ z, (alP T [(ka : Int), (kb : Int)] kt).2 = z := ⟨_, rfl⟩
    obtain ⟨m1, hm1⟩ : ∃ z, (rlP T [(ka : Int), (kb : Int)] [(kt : Int), (kb : Int)]).1 = z := ⟨_, rfl⟩
    obtain ⟨m2, hm2⟩ : ∃ z, (rlP T [(ka : Int), (kb : Int)] [(kt : Int), (kb : Int)]).2 = z := ⟨_, rfl⟩
    obtain ⟨cd, hcd⟩ : ∃ z, codeL T [[(ka : Int), (kb : Int)]] = z := ⟨_, rfl⟩
    rw [hu1, hu2, hm1, hm2, hcd]
    have HU1 := hide hu1
    have HU2 := hide hu2
    have HM1 := hide hm1
    have HM2 := hide hm2
    have HCD := hide hcd
    clear hu1 hu2 hm1 hm2 hcd
    cases hf : tg T ka kb
    · have hcd := HCD.out
      rw [codeL_yes OK.out D.out.1 D.out.2.1 hf] at hcd
      subst hcd
      rw [hf] at d1
      have HF0 := hide hf
      clear hf
      go_wp2_with fail
      go_quiet (fail)
      go_wp2_with fail
      have HF7 := hide (RdDn HF6.out nq)
      have HRT7 := hide (RdSS.drewN HRT6.out nq)
      have HRS7 := hide (RdSS.drewN HRS.out nq)
      have HB7 : Hid (Below w.heap.size w (w6.drewN nq)) := hide (HB6.out.trans (Joins.below_draws _ _ _))
      have hs7 : (w6.drewN nq).heap.size = w6.heap.size := rfl
      clear HF6 HRT6 HRS HB6 hcx d1 f0 f1 hbx0 hbx1
      generalize w6.drewN nq = w7 at *
      go_loopw [14] (fun i wr => ∃ k : Nat, k ≤ N ∧ i = .int .i64 k ∧ Hid (Below w7.heap.size w7 wr)) (fun i _ => N - (intOf i).toNat)
      case atStart => exact ⟨0, by omega, by rfl, hide (Below.refl _ _)⟩
      case round =>
        obtain ⟨k, hk, rfl, HBR⟩ := hrel
        have hsr := HBR.out.size
        have HF8 := hide (HF7.out.below HBR.out (by omega))
        have HRT8 := hide (HRT7.out.below HBR.out (by omega))
        have HRS8 := hide (HRS7.out.below HBR.out (by omega))
        have hNm : N ≤ 100000 := by have := stL_len T [(ka : Int), (kb : Int)]; rw [HN.out] at this; omega
        by_cases hkn : k < N
        · have x1 : (k : Int) < N := by omega
          have hmem : (stL T [(ka : Int), (kb : Int)]).getD k [] ∈ stL T [(ka : Int), (kb : Int)] := by rw [show (stL T [(ka : Int), (kb : Int)]).getD k [] = (stL T [(ka : Int), (kb : Int)])[k]'(by rw [HN.out]; exact hkn) by simp [List.getD, HN.out, hkn]]; exact List.getElem_mem _
          obtain ⟨c, d, ecd, hc, hd, st1, st2⟩ := stL_step OK.out D.out.1 D.out.2.1 HF0.out hmem
          obtain ⟨bs, os, Ai, ni, ci, rfl, l1', l2', qc, hni, hnl, hrd⟩ := HRS8.out.at_ hkn
          rw [rrInt64_at, ecd] at hrd hnl
          obtain rfl : ni = 2 := by rw [hnl]; rfl
          have HRD := hide hrd
          have S1 := hide st1
          have S2 := hide st2
          have HC := hide hc
          have HD := hide hd
          clear hmem ecd hrd hnl st1 st2 hc hd
          go_wp2_with fail
          refine (specStepAllowed_ok (some ⟨b0, o0, none⟩) (some ⟨w1.heap.size, 0, none⟩) Ai 24 ct 2 ci w.heap.size w1.heap.size w1.heap.size (w1.heap.size + 1) _ _ T (by unfold maxLen; omega) OK.out ka kb c d D.out.1 D.out.2.1 HC.out HD.out _ HRT8.out HF8.out HRD.out).mono ?_
          rintro e w8 ⟨rfl, hb8⟩
          rw [S1.out]
          have hs8 := hb8.size
          have HB8 := hide (HBR.out.trans (hb8.mono hsr))
          have HF9 := hide (HF8.out.below hb8 (by omega))
          have HRT9 := hide (HRT8.out.below hb8 (by omega))
          have HRD9 := hide (HRD.out.below hb8 (by omega))
          have q9 := (hb8.cell (p := ⟨bs, os + k, none⟩) (by show bs < wr.heap.size; omega)).trans qc
          clear hb8 qc
          go_wp2_with fail
          refine (implStepAllowed_ok (some ⟨b0, o0, none⟩) Ai (some ⟨w1.heap.size, 0, none⟩) 24 ct ci 2 w.heap.size w1.heap.size _ _ w1.heap.size (w1.heap.size + 1) T (by unfold maxLen; omega) OK.out c d ka kb HC.out HD.out D.out.1 D.out.2.1 _ HRT9.out (by omega) HRD9.out (by omega) HF9.out (by omega)).mono ?_
          rintro e w9 ⟨rfl, hb9⟩
          rw [S2.out]
          have HB9 := hide (HB8.out.trans (hb9.mono (by omega)))
          clear hb9 q9
          go_wp2_with fail
          go_roundw
          case rel => exact ⟨k + 1, by omega, by go_num, HB9⟩
          case measure => first | (simp [intOf]; done) | (simp [intOf]; omega)
        · obtain rfl : k = N := by omega
          by_cases hu0 : u2 = 0
          · subst hu0
            obtain ⟨g1, g2, g3⟩ := alone_good OK.out D.out.1 D.out.2.1 D.out.2.2 HF0.out HU2.out
            rw [HM2.out] at g1
            rw [HM1.out, HU1.out] at g2
            rw [HU1.out] at g3
            subst g1
            go_wp2_with fail
            go_ret
            exact ⟨by first | rfl | exact ret_bool (by simp; omega), HB7.out.trans (Below.mono (by first | (with_reducible exact HBR.out) | exact HBR.out.trans (Joins.below_draws _ _ _)) (by omega))⟩
          · have ub := alone_bad OK.out D.out.1 D.out.2.1 D.out.2.2 HF0.out (by rw [HU2.out]; exact hu0)
            rw [HU2.out] at ub
            rcases ub with rfl | ⟨rfl, htk⟩
            · go_wp2_with fail
              go_quiet (fail)
              go_wp2_with fail
              go_ret
              exact ⟨by first | rfl | exact ret_bool (by simp; omega), HB7.out.trans (Below.mono (by first | (with_reducible exact HBR.out) | exact HBR.out.trans (Joins.below_draws _ _ _)) (by omega))⟩
            · obtain ⟨f0, f1⟩ : wr.cell? ⟨w1.heap.size, 0, none⟩ = some (.int .i64 ka) ∧ wr.cell? ⟨w1.heap.size, 1, none⟩ = some (.int .i64 kb) := by
                obtain ⟨b, off, e, _, _, k0, k1⟩ := st_cells HF8.out
                simp only [Option.some.injEq, Addr.mk.injEq] at e
                obtain ⟨rfl, rfl, _⟩ := e
                exact ⟨k0, k1⟩
              obtain ⟨b2, o2, bz, oy, cy, hA2, hby0, hby1, hcy, hry⟩ := tab_row HRT8.out OK.out kt hkt
              obtain ⟨rfl, rfl⟩ : b0 = b2 ∧ o0 = o2 := by simpa using hA2
              have d2 := hry kb hkb
              rw [htk] at d2
              clear hry hA2 htk
              go_wp2_with fail
              go_quiet (fail)
              go_wp2_with fail
              go_ret
              exact ⟨by first | rfl | exact ret_bool (by simp; omega), HB7.out.trans (Below.mono (by first | (with_reducible exact HBR.out) | exact HBR.out.trans (Joins.below_draws _ _ _)) (by omega))⟩
    · have hcd := HCD.out
      rw [codeL_no OK.out D.out.1 D.out.2.1 hf] at hcd
      subst hcd
      have hu2 := HU2.out
      rw [alP_no OK.out D.out.1 D.out.2.1 D.out.2.2 hf] at hu2
      subst hu2
      rw [hf] at d1
      clear hf
      go_wp2_with fail
      go_quiet (fail)
      go_wp2_with fail
      go_ret
      exact ⟨rfl, HB6.out.trans (Joins.below_draws _ _ _)⟩
  · have HR0 := hide hr0
    have HR1 := hide hr1
    clear hr0 hr1 hw0 hw1 hl0 hl1
    go_enter Try.func4, Try.ntmps4
    go_wp2_with fail
    refine (a2Long_yes A0 A1 n0 c0 n1 c1 (by omega) _).mono ?_
    rintro e w' ⟨rfl, rfl⟩
    go_wp2_with fail
    go_ret
    exact ⟨rfl, Below.refl _ _⟩

set_option maxRecDepth 100000 in
theorem lifted (os : Os) (started : os.Started) (H : Type) (enc : TypeId × Value → H) :
    ReturnsInHanded {} Try.checked os 4 .any (Rows.fnAloneSpec.pre6 enc Try.prog Try.f4 Rows.fnAloneRow.domain false) (Rows.fnAloneSpec.post enc Try.prog Try.f4 false true false false) := by
  refine returnsInHanded_of_change (C := Try.checked) own started (by kernel_rfl) Try.func4
    (ChangeSpec.witness6 (enc := enc) (C := Try.checked) false ⟨#[], #[.slice none 0 0, .slice none 0 0], []⟩ 8 (by kernel_rfl) (by kernel_rfl) (by kernel_rfl) (by kernel_rfl)) ?_
  intro W base args ds gs before hval0 hW hcnd _
  have hval : ∀ (j : Nat) t v, Try.f4.params[j]? = some t → args[j]? = some v → Value.okWide Try.prog W .any base t v := hval0
  have hW' := hW
  obtain ⟨p, q, hA0, hV, rfl, hfz, hnd⟩ := hW
  have hA : DataW.TrodAll enc Try.prog W 0 (fun _ => true) true Try.f4.params.toList args.toList ds p := hA0
  rw [Try.params4] at hA hval
  obtain ⟨v0, vs0, d0, ds0, p0, q0, hargs, rfl, rfl, h0, r0⟩ := trodAll_cons hA
  obtain ⟨v1, vs1, d1, ds1, p1, q1, rfl, rfl, rfl, h1, r1⟩ := trodAll_cons r0
  obtain ⟨rfl, rfl, rfl⟩ := trodAll_nil r1
  obtain rfl : args = #[v0, v1] := by cases args; simp_all
  obtain ⟨rfl, rfl⟩ := trodVars_none hV
  obtain ⟨A0, n0, c0, l0, rfl, hnc0, hcm0, hl0, hr0, hw0⟩ := open_ByteS (hval 0 22 v0 rfl rfl) h0
  obtain ⟨A1, n1, c1, l1, rfl, hnc1, hcm1, hl1, hr1, hw1⟩ := open_ByteS (hval 1 22 v1 rfl rfl) h1
  clear hA0 hval0
  refine (walk W A0 n0 c0 l0 hl0 (Nat.le_trans hnc0 hcm0) hr0 hw0 A1 n1 c1 l1 hl1 (Nat.le_trans hnc1 hcm1) hr1 hw1).mono fun e W' ⟨he, hB⟩ => ?_
  subst he
  exact ⟨_, rfl, law_post laidOut Try.underlying4 rfl (by kernel_rfl) (by kernel_rfl) hW' rfl rfl rfl hB⟩

theorem proved : Rows.FnAloneSaid :=
  OpenClaim.holds_of_wide 4 Try.f4 rfl rfl rfl rfl rfl rfl rfl ⟨rfl, rfl, rfl, rfl, rfl⟩ rfl rfl rfl rfl rfl (by kernel_rfl) Try.func4 (joined rfl rfl rfl (by kernel_rfl))
    (of_decide_eq_true (by kernel_rfl)) (by unfold Func.isWrapper; first | (rw [if_pos (by decide +kernel)]; kernel_rfl) | (rw [if_neg (by decide +kernel)]; exact ⟨rfl, rfl⟩))
    (fun os started H enc _ => lifted os started H enc)
#print axioms proved
end fnAlone
end Go.Proofs.Ytnbahmjimnhfbaa
