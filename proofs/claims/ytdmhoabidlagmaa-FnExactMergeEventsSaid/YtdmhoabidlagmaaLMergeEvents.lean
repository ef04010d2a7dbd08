/-
  FnExactMergeEvents: the law answers true at every input, and the input reads behind the call as it read before. No condition.
-/
import Derived.Test.YtdmhoabidlagmaaFrame
import Derived.Test.YtdmhoabidlagmaaFacts
import Derived.WalkKit
import Derived.WalkSpells
import Derived.WalkLawsBesides
import Derived.Deep.RegionWith
import Derived.Deep.DeepCutAuto
import Derived.Test.YtdmhoabidlagmaaOpnEvent
import Derived.Test.YtdmhoabidlagmaaMg3
namespace Go.Proofs.Ytdmhoabidlagmaa
open Go.ChangeShapes Go.WideShapes Go.ChangeAt Go.RowKit
namespace fnExactMergeEvents
set_option linter.unusedVariables false
set_option linter.unusedSimpArgs false
set_option maxRecDepth 100000 in
set_option maxHeartbeats 4000000 in
theorem walk (w : World) (A0 : Option Addr) (n0 c0 : Nat) (l0 : List (Int × Int × Int × Int)) (hl0 : l0.length = n0) (hm0 : n0 ≤ maxLen) (hr0 : Rd w 0 w.heap.size 4 A0 n0 (rEvent l0)) (hw0 : ∀ p ∈ l0, (Lit.int .i64 p.1).wf = true ∧ (Lit.int .i64 p.2.1).wf = true ∧ (Lit.int .i64 p.2.2.1).wf = true ∧ (Lit.int .i64 p.2.2.2).wf = true) (A1 : Option Addr) (n1 c1 : Nat) (l1 : List (Int × Int × Int × Int)) (hl1 : l1.length = n1) (hm1 : n1 ≤ maxLen) (hr1 : Rd w 0 w.heap.size 4 A1 n1 (rEvent l1)) (hw1 : ∀ p ∈ l1, (Lit.int .i64 p.1).wf = true ∧ (Lit.int .i64 p.2.1).wf = true ∧ (Lit.int .i64 p.2.2.1).wf = true ∧ (Lit.int .i64 p.2.2.2).wf = true) :
    Calls Try.prog 3 #[.slice A0 n0 c0, .slice A1 n1 c1] w fun e w' => e = .returned (.bool true) ∧ Below w.heap.size w w' := by
  by_cases hn0 : n0 ≤ 1048576
  · by_cases hn1' : n0 + n1 ≤ 1048576
    · skip
      clear hm0 hm1 hw0 hw1
      have hn1 : n1 ≤ 1048576 := by omega
      obtain ⟨L, HL⟩ : ∃ L, Hid (mgL l0 l1 = L) := ⟨_, hide rfl⟩
      obtain ⟨co, HC⟩ : ∃ co, Hid (mgC l0 l1 = co) := ⟨_, hide rfl⟩
      have hL : L.length ≤ 1048576 := by have := mgL_len l0 l1; rw [HL.out] at this; omega
      go_enter Try.func3, Try.ntmps3
      go_wp2_with fail
      refine (szEventS_ok A0 n0 c0 _ (by omega) (by omega) _).mono ?_
      rintro e w' ⟨rfl, rfl⟩
      go_wp2_with fail
      refine (szEventS_ok A1 n1 c1 _ (by omega) (by omega) _).mono ?_
      rintro e w' ⟨rfl, rfl⟩
      go_wp2_with fail
      refine (toEventS_any A0 n0 c0 0 w.heap.size l0 hn0 _ hl0 hr0 (by omega)).mono ?_
      rintro e w1 ⟨va, rfl, hoa, hb1⟩
      have hs1 := hb1.size
      replace hr0 := hr0.below hb1 (by omega)
      replace hr1 := hr1.below hb1 (by omega)
      obtain ⟨Aa, ca, rfl, hnca, hcma, hra⟩ := hoa.rd
      go_wp2_with fail
      refine (toEventS_any A1 n1 c1 0 w.heap.size l1 hn1 _ hl1 hr1 (by omega)).mono ?_
      rintro e w2 ⟨vb, rfl, hob, hb2⟩
      have hs2 := hb2.size
      replace hr0 := hr0.below hb2 (by omega)
      replace hr1 := hr1.below hb2 (by omega)
      replace hra := hra.below hb2 (by omega)
      replace hoa := hoa.below hb2 (by omega)
      obtain ⟨Ab, cb, rfl, hncb, hcmb, hrb⟩ := hob.rd
      go_wp2_with fail
      refine (specMerge_at _ _ n0 n1 w.heap.size w1.heap.size w1.heap.size w2.heap.size l0 l1 co L hn1' HC HL _ hoa hob).mono ?_
      rintro e w3 ⟨vs, rfl, hos, hb3⟩
      have hs3 := hb3.size
      replace hr0 := hr0.below hb3 (by omega)
      replace hr1 := hr1.below hb3 (by omega)
      replace hra := hra.below hb3 (by omega)
      replace hoa := hoa.below hb3 (by omega)
      replace hrb := hrb.below hb3 (by omega)
      replace hob := hob.below hb3 (by omega)
      obtain ⟨As, cs, rfl, hncs, hcms, hrs⟩ := hos.rd
      go_wp2_with fail
      refine (toEventS_any A0 n0 c0 0 w.heap.size l0 hn0 _ hl0 hr0 (by omega)).mono ?_
      rintro e w4 ⟨vc, rfl, hoc, hb4⟩
      have hs4 := hb4.size
      replace hr0 := hr0.below hb4 (by omega)
      replace hr1 := hr1.below hb4 (by omega)
      replace hrs := hrs.below hb4 (by omega)
      replace hos := hos.below hb4 (by omega)
      obtain ⟨Ac, cc, rfl, hncc, hcmc, hrc⟩ := hoc.rd
      go_wp2_with fail
      refine (toEventS_any A1 n1 c1 0 w.heap.size l1 hn1 _ hl1 hr1 (by omega)).mono ?_
      rintro e w5 ⟨vd, rfl, hod, hb5⟩
      have hs5 := hb5.size
      replace hr0 := hr0.below hb5 (by omega)
      replace hr1 := hr1.below hb5 (by omega)
      replace hrs := hrs.below hb5 (by omega)
      replace hos := hos.below hb5 (by omega)
      replace hrc := hrc.below hb5 (by omega)
      replace hoc := hoc.below hb5 (by omega)
      obtain ⟨Ad, cd, rfl, hncd, hcmd, hrd⟩ := hod.rd
      go_wp2_with fail
      refine (implMerge_at _ _ n0 n1 w3.heap.size w4.heap.size w4.heap.size w5.heap.size l0 l1 co L hn1' HC HL _ hoc hod).mono ?_
      rintro e w6 ⟨vg, rfl, hog, hb6⟩
      have hs6 := hb6.size
      replace hr0 := hr0.below hb6 (by omega)
      replace hr1 := hr1.below hb6 (by omega)
      replace hrs := hrs.below hb6 (by omega)
      replace hos := hos.below hb6 (by omega)
      replace hrc := hrc.below hb6 (by omega)
      replace hoc := hoc.below hb6 (by omega)
      replace hrd := hrd.below hb6 (by omega)
      replace hod := hod.below hb6 (by omega)
      obtain ⟨Ag, cg, rfl, hncg, hcmg, hrg⟩ := hog.rd
      go_wp2_with fail
      refine (eqEventS_same Ag As _ cg cs w5.heap.size w6.heap.size w2.heap.size w3.heap.size L (hL) _ rfl hrg hrs (by omega) (by omega)).mono ?_
      rintro e w7 ⟨rfl, hb7⟩
      have hs7 := hb7.size
      replace hr0 := hr0.below hb7 (by omega)
      replace hr1 := hr1.below hb7 (by omega)
      replace hrs := hrs.below hb7 (by omega)
      replace hos := hos.below hb7 (by omega)
      replace hrc := hrc.below hb7 (by omega)
      replace hoc := hoc.below hb7 (by omega)
      replace hrd := hrd.below hb7 (by omega)
      replace hod := hod.below hb7 (by omega)
      replace hrg := hrg.below hb7 (by omega)
      replace hog := hog.below hb7 (by omega)
      go_wp2_with fail
      refine (toEventS_any A0 n0 c0 0 w.heap.size l0 hn0 _ hl0 hr0 (by omega)).mono ?_
      rintro e w8 ⟨ve, rfl, hoe, hb8⟩
      have hs8 := hb8.size
      replace hr0 := hr0.below hb8 (by omega)
      replace hr1 := hr1.below hb8 (by omega)
      replace hrs := hrs.below hb8 (by omega)
      replace hos := hos.below hb8 (by omega)
      replace hrc := hrc.below hb8 (by omega)
      replace hoc := hoc.below hb8 (by omega)
      replace hrd := hrd.below hb8 (by omega)
      replace hod := hod.below hb8 (by omega)
      replace hrg := hrg.below hb8 (by omega)
      replace hog := hog.below hb8 (by omega)
      obtain ⟨Ae, ce, rfl, hnce, hcme, hre⟩ := hoe.rd
      go_wp2_with fail
      refine (eqEventS_same Ac Ae n0 cc ce w3.heap.size w4.heap.size w7.heap.size w8.heap.size l0 hn0 _ hl0 hrc hre (by omega) (by omega)).mono ?_
      rintro e w9 ⟨rfl, hb9⟩
      have hs9 := hb9.size
      replace hr0 := hr0.below hb9 (by omega)
      replace hr1 := hr1.below hb9 (by omega)
      replace hrs := hrs.below hb9 (by omega)
      replace hos := hos.below hb9 (by omega)
      replace hrc := hrc.below hb9 (by omega)
      replace hoc := hoc.below hb9 (by omega)
      replace hrd := hrd.below hb9 (by omega)
      replace hod := hod.below hb9 (by omega)
      replace hrg := hrg.below hb9 (by omega)
      replace hog := hog.below hb9 (by omega)
      replace hre := hre.below hb9 (by omega)
      replace hoe := hoe.below hb9 (by omega)
      go_wp2_with fail
      refine (toEventS_any A1 n1 c1 0 w.heap.size l1 hn1 _ hl1 hr1 (by omega)).mono ?_
      rintro e w10 ⟨vf, rfl, hof, hb10⟩
      have hs10 := hb10.size
      replace hr0 := hr0.below hb10 (by omega)
      replace hr1 := hr1.below hb10 (by omega)
      replace hrs := hrs.below hb10 (by omega)
      replace hos := hos.below hb10 (by omega)
      replace hrc := hrc.below hb10 (by omega)
      replace hoc := hoc.below hb10 (by omega)
      replace hrd := hrd.below hb10 (by omega)
      replace hod := hod.below hb10 (by omega)
      replace hrg := hrg.below hb10 (by omega)
      replace hog := hog.below hb10 (by omega)
      obtain ⟨Af, cf, rfl, hncf, hcmf, hrf⟩ := hof.rd
      go_wp2_with fail
      refine (eqEventS_same Ad Af n1 cd cf w4.heap.size w5.heap.size w9.heap.size w10.heap.size l1 hn1 _ hl1 hrd hrf (by omega) (by omega)).mono ?_
      rintro e w11 ⟨rfl, hb11⟩
      have hs11 := hb11.size
      replace hr0 := hr0.below hb11 (by omega)
      replace hr1 := hr1.below hb11 (by omega)
      replace hrs := hrs.below hb11 (by omega)
      replace hos := hos.below hb11 (by omega)
      replace hrc := hrc.below hb11 (by omega)
      replace hoc := hoc.below hb11 (by omega)
      replace hrd := hrd.below hb11 (by omega)
      replace hod := hod.below hb11 (by omega)
      replace hrg := hrg.below hb11 (by omega)
      replace hog := hog.below hb11 (by omega)
      replace hrf := hrf.below hb11 (by omega)
      replace hof := hof.below hb11 (by omega)
      go_wp2_with fail
      refine (markEventS_any _ n0 w3.heap.size w4.heap.size _ 1 (by omega) (by omega) hn0 _ hoc (by omega)).mono ?_
      rintro e w12 ⟨rfl, hom, ht12⟩
      have hs12 := ht12.size
      replace hr0 := hr0.tch ht12 (by omega) (by omega)
      replace hr1 := hr1.tch ht12 (by omega) (by omega)
      replace hrs := hrs.tch ht12 (by omega) (by omega)
      replace hos := hos.tch ht12 (by omega)
      replace hrd := hrd.tch ht12 (by omega) (by omega)
      replace hod := hod.tch ht12 (by omega)
      replace hrg := hrg.tch ht12 (by omega) (by omega)
      replace hog := hog.tch ht12 (by omega)
      obtain ⟨_, _, hem, _, _, hrm⟩ := hom.rd
      injection hem with e1 e2 e3; subst e1; subst e3; clear e2
      go_wp2_with fail
      refine (markEventS_any _ n1 w4.heap.size w5.heap.size _ _ (by omega) (by omega) hn1 _ hod (by omega)).mono ?_
      rintro e w13 ⟨rfl, hok, ht13⟩
      have hs13 := ht13.size
      replace hr0 := hr0.tch ht13 (by omega) (by omega)
      replace hr1 := hr1.tch ht13 (by omega) (by omega)
      replace hrs := hrs.tch ht13 (by omega) (by omega)
      replace hos := hos.tch ht13 (by omega)
      replace hrg := hrg.tch ht13 (by omega) (by omega)
      replace hog := hog.tch ht13 (by omega)
      obtain ⟨_, _, hek, _, _, hrk⟩ := hok.rd
      injection hek with e1 e2 e3; subst e1; subst e3; clear e2
      go_wp2_with fail
      refine (eqEventS_same Ag As _ cg cs w5.heap.size w6.heap.size w2.heap.size w3.heap.size L (hL) _ rfl hrg hrs (by omega) (by omega)).mono ?_
      rintro e w14 ⟨rfl, hb14⟩
      have hs14 := hb14.size
      replace hr0 := hr0.below hb14 (by omega)
      replace hr1 := hr1.below hb14 (by omega)
      replace hrs := hrs.below hb14 (by omega)
      replace hos := hos.below hb14 (by omega)
      replace hrg := hrg.below hb14 (by omega)
      replace hog := hog.below hb14 (by omega)
      go_wp2_with fail
      refine (markEventS_any _ _ w5.heap.size w6.heap.size _ 1 (by omega) (by omega) (hL) _ hog (by omega)).mono ?_
      rintro e w15 ⟨rfl, hon, ht15⟩
      have hs15 := ht15.size
      replace hr0 := hr0.tch ht15 (by omega) (by omega)
      replace hr1 := hr1.tch ht15 (by omega) (by omega)
      replace hrs := hrs.tch ht15 (by omega) (by omega)
      replace hos := hos.tch ht15 (by omega)
      obtain ⟨_, _, hen, _, _, hrn⟩ := hon.rd
      injection hen with e1 e2 e3; subst e1; subst e3; clear e2
      go_wp2_with fail
      refine (heldEventS_any Ag _ cg w5.heap.size w6.heap.size _ (by omega) (by omega) (hL) _ hrn).mono ?_
      rintro e w' ⟨rfl, rfl⟩
      go_wp2_with fail
      refine (toEventS_any A0 n0 c0 0 w.heap.size l0 hn0 _ hl0 hr0 (by omega)).mono ?_
      rintro e w16 ⟨vp, rfl, hop, hb16⟩
      have hs16 := hb16.size
      replace hr0 := hr0.below hb16 (by omega)
      replace hr1 := hr1.below hb16 (by omega)
      replace hrs := hrs.below hb16 (by omega)
      replace hos := hos.below hb16 (by omega)
      replace hrn := hrn.below hb16 (by omega)
      replace hon := hon.below hb16 (by omega)
      obtain ⟨Ap, cp, rfl, hncp, hcmp, hrp⟩ := hop.rd
      go_wp2_with fail
      refine (toEventS_any A1 n1 c1 0 w.heap.size l1 hn1 _ hl1 hr1 (by omega)).mono ?_
      rintro e w17 ⟨vq, rfl, hoq, hb17⟩
      have hs17 := hb17.size
      replace hr0 := hr0.below hb17 (by omega)
      replace hr1 := hr1.below hb17 (by omega)
      replace hrs := hrs.below hb17 (by omega)
      replace hos := hos.below hb17 (by omega)
      replace hrn := hrn.below hb17 (by omega)
      replace hon := hon.below hb17 (by omega)
      replace hrp := hrp.below hb17 (by omega)
      replace hop := hop.below hb17 (by omega)
      obtain ⟨Aq, cq, rfl, hncq, hcmq, hrq⟩ := hoq.rd
      go_wp2_with fail
      refine (implMerge_at _ _ n0 n1 w15.heap.size w16.heap.size w16.heap.size w17.heap.size l0 l1 co L hn1' HC HL _ hop hoq).mono ?_
      rintro e w18 ⟨vh, rfl, hoh, hb18⟩
      have hs18 := hb18.size
      replace hr0 := hr0.below hb18 (by omega)
      replace hr1 := hr1.below hb18 (by omega)
      replace hrs := hrs.below hb18 (by omega)
      replace hos := hos.below hb18 (by omega)
      replace hrn := hrn.below hb18 (by omega)
      replace hon := hon.below hb18 (by omega)
      replace hrp := hrp.below hb18 (by omega)
      replace hop := hop.below hb18 (by omega)
      replace hrq := hrq.below hb18 (by omega)
      replace hoq := hoq.below hb18 (by omega)
      obtain ⟨Ah, ch, rfl, hnch, hcmh, hrh⟩ := hoh.rd
      go_wp2_with fail
      refine (eqEventS_same Ah As _ ch cs w17.heap.size w18.heap.size w2.heap.size w3.heap.size L (hL) _ rfl hrh hrs (by omega) (by omega)).mono ?_
      rintro e w19 ⟨rfl, hb19⟩
      have hs19 := hb19.size
      replace hr0 := hr0.below hb19 (by omega)
      replace hr1 := hr1.below hb19 (by omega)
      replace hrs := hrs.below hb19 (by omega)
      replace hos := hos.below hb19 (by omega)
      replace hrn := hrn.below hb19 (by omega)
      replace hon := hon.below hb19 (by omega)
      replace hrh := hrh.below hb19 (by omega)
      replace hoh := hoh.below hb19 (by omega)
      go_wp2_with fail
      refine (heldEventS_any Ag _ cg w5.heap.size w6.heap.size _ (by omega) (by omega) (hL) _ hrn).mono ?_
      rintro e w' ⟨rfl, rfl⟩
      go_wp2_with fail
      go_ret
      exact ⟨rfl, (((((((((((((((((((Below.refl _ _).trans (hb1.mono (by omega))).trans (hb2.mono (by omega))).trans (hb3.mono (by omega))).trans (hb4.mono (by omega))).trans (hb5.mono (by omega))).trans (hb6.mono (by omega))).trans (hb7.mono (by omega))).trans (hb8.mono (by omega))).trans (hb9.mono (by omega))).trans (hb10.mono (by omega))).trans (hb11.mono (by omega))).trans ((ht12.below (by omega)).mono (by omega))).trans ((ht13.below (by omega)).mono (by omega))).trans (hb14.mono (by omega))).trans ((ht15.below (by omega)).mono (by omega))).trans (hb16.mono (by omega))).trans (hb17.mono (by omega))).trans (hb18.mono (by omega))).trans (hb19.mono (by omega))⟩
    · clear hr0 hl0 hw0 hr1 hl1 hw1
      go_enter Try.func3, Try.ntmps3
      go_wp2_with fail
      refine (szEventS_ok A0 n0 c0 _ (by omega) (by omega) _).mono ?_
      rintro e w' ⟨rfl, rfl⟩
      go_wp2_with fail
      refine (szEventS_big A1 n1 c1 _ (by omega) (by omega) (by omega) hm1 _).mono ?_
      rintro e w' ⟨rfl, rfl⟩
      go_wp2_with fail
      go_ret
      exact ⟨rfl, Below.refl _ _⟩
  · clear hr0 hl0 hw0 hr1 hl1 hw1
    go_enter Try.func3, Try.ntmps3
    go_wp2_with fail
    refine (szEventS_big A0 n0 c0 _ (by omega) (by omega) (by omega) hm0 _).mono ?_
    rintro e w' ⟨rfl, rfl⟩
    go_wp2_with fail
    go_ret
    exact ⟨rfl, Below.refl _ _⟩

set_option maxRecDepth 100000 in
theorem lifted (os : Os) (started : os.Started) (H : Type) (enc : TypeId × Value → H) :
    ReturnsInHanded {} Try.checked os 3 .any (Rows.fnExactMergeEventsSpec.pre6 enc Try.prog Try.f3 Rows.fnExactMergeEventsRow.domain false) (Rows.fnExactMergeEventsSpec.post enc Try.prog Try.f3 false true false false) := by
  refine returnsInHanded_of_change (C := Try.checked) own started (by kernel_rfl) Try.func3
    (ChangeSpec.witness6 (enc := enc) (C := Try.checked) false ⟨#[], #[.slice none 0 0, .slice none 0 0], []⟩ 8 (by kernel_rfl) (by kernel_rfl) (by kernel_rfl) (by kernel_rfl)) ?_
  intro W base args ds gs before hval0 hW hcnd _
  have hval : ∀ (j : Nat) t v, Try.f3.params[j]? = some t → args[j]? = some v → Value.okWide Try.prog W .any base t v := hval0
  have hW' := hW
  obtain ⟨p, q, hA0, hV, rfl, hfz, hnd⟩ := hW
  have hA : DataW.TrodAll enc Try.prog W 0 (fun _ => true) true Try.f3.params.toList args.toList ds p := hA0
  rw [Try.params3] at hA hval
  obtain ⟨v0, vs0, d0, ds0, p0, q0, hargs, rfl, rfl, h0, r0⟩ := trodAll_cons hA
  obtain ⟨v1, vs1, d1, ds1, p1, q1, rfl, rfl, rfl, h1, r1⟩ := trodAll_cons r0
  obtain ⟨rfl, rfl, rfl⟩ := trodAll_nil r1
  obtain rfl : args = #[v0, v1] := by cases args; simp_all
  obtain ⟨rfl, rfl⟩ := trodVars_none hV
  obtain ⟨A0, n0, c0, l0, rfl, hnc0, hcm0, hl0, hr0, hw0⟩ := open_EventS (hval 0 22 v0 rfl rfl) h0
  obtain ⟨A1, n1, c1, l1, rfl, hnc1, hcm1, hl1, hr1, hw1⟩ := open_EventS (hval 1 22 v1 rfl rfl) h1
  clear hA0 hval0
  refine (walk W A0 n0 c0 l0 hl0 (Nat.le_trans hnc0 hcm0) hr0 hw0 A1 n1 c1 l1 hl1 (Nat.le_trans hnc1 hcm1) hr1 hw1).mono fun e W' ⟨he, hB⟩ => ?_
  subst he
  exact ⟨_, rfl, law_post laidOut Try.underlying4 rfl (by kernel_rfl) (by kernel_rfl) hW' rfl rfl rfl hB⟩

theorem proved : Rows.FnExactMergeEventsSaid :=
  OpenClaim.holds_of_wide 3 Try.f3 rfl rfl rfl rfl rfl rfl rfl ⟨rfl, rfl, rfl, rfl, rfl⟩ rfl rfl rfl rfl rfl (by kernel_rfl) Try.func3 (joined rfl rfl rfl (by kernel_rfl))
    (of_decide_eq_true (by kernel_rfl)) (by unfold Func.isWrapper; first | (rw [if_pos (by decide +kernel)]; kernel_rfl) | (rw [if_neg (by decide +kernel)]; exact ⟨rfl, rfl⟩))
    (fun os started H enc _ => lifted os started H enc)
#print axioms proved
end fnExactMergeEvents
end Go.Proofs.Ytdmhoabidlagmaa
