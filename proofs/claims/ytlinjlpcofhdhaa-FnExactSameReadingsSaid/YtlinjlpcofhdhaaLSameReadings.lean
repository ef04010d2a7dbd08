/-
  FnExactSameReadings: the law answers true at every input, and the input reads behind the call as it read before. No condition.
-/
import Derived.Test.YtlinjlpcofhdhaaFrame
import Derived.WalkKit
import Derived.WalkSpells
import Derived.WalkLawsBesides
import Derived.Test.YtlinjlpcofhdhaaSame
import Derived.Test.YtlinjlpcofhdhaaOpnReading
namespace Go.Proofs.Ytlinjlpcofhdhaa
open Go.ChangeShapes Go.WideShapes Go.ChangeAt Go.RowKit
namespace fnExactSameReadings
set_option linter.unusedVariables false
set_option maxHeartbeats 1000000 in
theorem walk (w : World) (A0 : Option Addr) (n0 c0 : Nat) (l0 : List (Int × Int)) (hl0 : l0.length = n0) (hm0 : n0 ≤ maxLen) (hr0 : Rd w 0 w.heap.size 2 A0 n0 (rReading l0)) (hw0 : ∀ p ∈ l0, (Lit.int .i64 p.1).wf = true ∧ (Lit.int .i64 p.2).wf = true) (A1 : Option Addr) (n1 c1 : Nat) (l1 : List (Int × Int)) (hl1 : l1.length = n1) (hm1 : n1 ≤ maxLen) (hr1 : Rd w 0 w.heap.size 2 A1 n1 (rReading l1)) (hw1 : ∀ p ∈ l1, (Lit.int .i64 p.1).wf = true ∧ (Lit.int .i64 p.2).wf = true) :
    Calls Try.prog 5 #[.slice A0 n0 c0, .slice A1 n1 c1] w fun e w' => e = .returned (.bool true) ∧ Below w.heap.size w w' := by
  by_cases hn0 : n0 ≤ 1048576
  · by_cases hn1' : n0 + n1 ≤ 1048576
    · skip
      clear hm0 hm1 hw0 hw1
      have hn1 : n1 ≤ 1048576 := by omega
      go_enter Try.func5, Try.ntmps5
      go_wp2_with fail
      refine (szReadingS_ok A0 n0 c0 _ (by omega) (by omega) _).mono ?_
      rintro e w' ⟨rfl, rfl⟩
      go_wp2_with fail
      refine (szReadingS_ok A1 n1 c1 _ (by omega) (by omega) _).mono ?_
      rintro e w' ⟨rfl, rfl⟩
      go_wp2_with fail
      refine (toReadingS_any A0 n0 c0 0 w.heap.size l0 hn0 _ hl0 hr0 (by omega)).mono ?_
      rintro e w1 ⟨va, rfl, hoa, hb1⟩
      have hs1 := hb1.size
      replace hr0 := hr0.below hb1 (by omega)
      replace hr1 := hr1.below hb1 (by omega)
      obtain ⟨Aa, ca, rfl, hnca, hcma, hra⟩ := hoa.rd
      go_wp2_with fail
      refine (toReadingS_any A1 n1 c1 0 w.heap.size l1 hn1 _ hl1 hr1 (by omega)).mono ?_
      rintro e w2 ⟨vb, rfl, hob, hb2⟩
      have hs2 := hb2.size
      replace hr0 := hr0.below hb2 (by omega)
      replace hr1 := hr1.below hb2 (by omega)
      replace hra := hra.below hb2 (by omega)
      replace hoa := hoa.below hb2 (by omega)
      obtain ⟨Ab, cb, rfl, hncb, hcmb, hrb⟩ := hob.rd
      go_wp2_with fail
      refine (specSameReadings_any Aa Ab n0 n1 ca cb w.heap.size w1.heap.size w1.heap.size w2.heap.size l0 l1 hn0 hn1 _ hl0 hl1 hra hrb (by omega) (by omega)).mono ?_
      rintro e w3 ⟨rfl, hb3⟩
      have hs3 := hb3.size
      replace hr0 := hr0.below hb3 (by omega)
      replace hr1 := hr1.below hb3 (by omega)
      replace hra := hra.below hb3 (by omega)
      replace hoa := hoa.below hb3 (by omega)
      replace hrb := hrb.below hb3 (by omega)
      replace hob := hob.below hb3 (by omega)
      go_wp2_with fail
      refine (toReadingS_any A0 n0 c0 0 w.heap.size l0 hn0 _ hl0 hr0 (by omega)).mono ?_
      rintro e w4 ⟨vc, rfl, hoc, hb4⟩
      have hs4 := hb4.size
      replace hr0 := hr0.below hb4 (by omega)
      replace hr1 := hr1.below hb4 (by omega)
      obtain ⟨Ac, cc, rfl, hncc, hcmc, hrc⟩ := hoc.rd
      go_wp2_with fail
      refine (toReadingS_any A1 n1 c1 0 w.heap.size l1 hn1 _ hl1 hr1 (by omega)).mono ?_
      rintro e w5 ⟨vd, rfl, hod, hb5⟩
      have hs5 := hb5.size
      replace hr0 := hr0.below hb5 (by omega)
      replace hr1 := hr1.below hb5 (by omega)
      replace hrc := hrc.below hb5 (by omega)
      replace hoc := hoc.below hb5 (by omega)
      obtain ⟨Ad, cd, rfl, hncd, hcmd, hrd⟩ := hod.rd
      go_wp2_with fail
      refine (implSameReadings_any Ac Ad n0 n1 cc cd w3.heap.size w4.heap.size w4.heap.size w5.heap.size l0 l1 hn0 hn1 _ hl0 hl1 hrc hrd (by omega) (by omega)).mono ?_
      rintro e w6 ⟨rfl, hb6⟩
      have hs6 := hb6.size
      replace hr0 := hr0.below hb6 (by omega)
      replace hr1 := hr1.below hb6 (by omega)
      replace hrc := hrc.below hb6 (by omega)
      replace hoc := hoc.below hb6 (by omega)
      replace hrd := hrd.below hb6 (by omega)
      replace hod := hod.below hb6 (by omega)
      go_wp2_with fail
      refine (toReadingS_any A0 n0 c0 0 w.heap.size l0 hn0 _ hl0 hr0 (by omega)).mono ?_
      rintro e w7 ⟨ve, rfl, hoe, hb7⟩
      have hs7 := hb7.size
      replace hr0 := hr0.below hb7 (by omega)
      replace hr1 := hr1.below hb7 (by omega)
      replace hrc := hrc.below hb7 (by omega)
      replace hoc := hoc.below hb7 (by omega)
      replace hrd := hrd.below hb7 (by omega)
      replace hod := hod.below hb7 (by omega)
      obtain ⟨Ae, ce, rfl, hnce, hcme, hre⟩ := hoe.rd
      go_wp2_with fail
      refine (eqReadingS_same Ac Ae n0 cc ce w3.heap.size w4.heap.size w6.heap.size w7.heap.size l0 hn0 _ hl0 hrc hre (by omega) (by omega)).mono ?_
      rintro e w8 ⟨rfl, hb8⟩
      have hs8 := hb8.size
      replace hr0 := hr0.below hb8 (by omega)
      replace hr1 := hr1.below hb8 (by omega)
      replace hrc := hrc.below hb8 (by omega)
      replace hoc := hoc.below hb8 (by omega)
      replace hrd := hrd.below hb8 (by omega)
      replace hod := hod.below hb8 (by omega)
      replace hre := hre.below hb8 (by omega)
      replace hoe := hoe.below hb8 (by omega)
      go_wp2_with fail
      refine (toReadingS_any A1 n1 c1 0 w.heap.size l1 hn1 _ hl1 hr1 (by omega)).mono ?_
      rintro e w9 ⟨vf, rfl, hof, hb9⟩
      have hs9 := hb9.size
      replace hr0 := hr0.below hb9 (by omega)
      replace hr1 := hr1.below hb9 (by omega)
      replace hrc := hrc.below hb9 (by omega)
      replace hoc := hoc.below hb9 (by omega)
      replace hrd := hrd.below hb9 (by omega)
      replace hod := hod.below hb9 (by omega)
      obtain ⟨Af, cf, rfl, hncf, hcmf, hrf⟩ := hof.rd
      go_wp2_with fail
      refine (eqReadingS_same Ad Af n1 cd cf w4.heap.size w5.heap.size w8.heap.size w9.heap.size l1 hn1 _ hl1 hrd hrf (by omega) (by omega)).mono ?_
      rintro e w10 ⟨rfl, hb10⟩
      have hs10 := hb10.size
      replace hr0 := hr0.below hb10 (by omega)
      replace hr1 := hr1.below hb10 (by omega)
      replace hrc := hrc.below hb10 (by omega)
      replace hoc := hoc.below hb10 (by omega)
      replace hrd := hrd.below hb10 (by omega)
      replace hod := hod.below hb10 (by omega)
      replace hrf := hrf.below hb10 (by omega)
      replace hof := hof.below hb10 (by omega)
      go_wp2_with fail
      go_ret
      exact ⟨rfl, ((((((((((Below.refl _ _).trans (hb1.mono (by omega))).trans (hb2.mono (by omega))).trans (hb3.mono (by omega))).trans (hb4.mono (by omega))).trans (hb5.mono (by omega))).trans (hb6.mono (by omega))).trans (hb7.mono (by omega))).trans (hb8.mono (by omega))).trans (hb9.mono (by omega))).trans (hb10.mono (by omega))⟩
    · clear hr0 hl0 hw0 hr1 hl1 hw1
      go_enter Try.func5, Try.ntmps5
      go_wp2_with fail
      refine (szReadingS_ok A0 n0 c0 _ (by omega) (by omega) _).mono ?_
      rintro e w' ⟨rfl, rfl⟩
      go_wp2_with fail
      refine (szReadingS_big A1 n1 c1 _ (by omega) (by omega) (by omega) hm1 _).mono ?_
      rintro e w' ⟨rfl, rfl⟩
      go_wp2_with fail
      go_ret
      exact ⟨rfl, Below.refl _ _⟩
  · clear hr0 hl0 hw0 hr1 hl1 hw1
    go_enter Try.func5, Try.ntmps5
    go_wp2_with fail
    refine (szReadingS_big A0 n0 c0 _ (by omega) (by omega) (by omega) hm0 _).mono ?_
    rintro e w' ⟨rfl, rfl⟩
    go_wp2_with fail
    go_ret
    exact ⟨rfl, Below.refl _ _⟩

set_option maxRecDepth 100000 in
theorem lifted (os : Os) (started : os.Started) (H : Type) (enc : TypeId × Value → H) :
    ReturnsInHanded {} Try.checked os 5 .any (Rows.fnExactSameReadingsSpec.pre6 enc Try.prog Try.f5 Rows.fnExactSameReadingsRow.domain false) (Rows.fnExactSameReadingsSpec.post enc Try.prog Try.f5 false true false false) := by
  refine returnsInHanded_of_change (C := Try.checked) own started (by kernel_rfl) Try.func5
    (ChangeSpec.witness6 (enc := enc) (C := Try.checked) false ⟨#[], #[.slice none 0 0, .slice none 0 0], []⟩ 8 (by kernel_rfl) (by kernel_rfl) (by kernel_rfl) (by kernel_rfl)) ?_
  intro W base args ds gs before hval0 hW hcnd _
  have hval : ∀ (j : Nat) t v, Try.f5.params[j]? = some t → args[j]? = some v → Value.okWide Try.prog W .any base t v := hval0
  have hW' := hW
  obtain ⟨p, q, hA0, hV, rfl, hfz, hnd⟩ := hW
  have hA : DataW.TrodAll enc Try.prog W 0 (fun _ => true) true Try.f5.params.toList args.toList ds p := hA0
  rw [Try.params5] at hA hval
  obtain ⟨v0, vs0, d0, ds0, p0, q0, hargs, rfl, rfl, h0, r0⟩ := trodAll_cons hA
  obtain ⟨v1, vs1, d1, ds1, p1, q1, rfl, rfl, rfl, h1, r1⟩ := trodAll_cons r0
  obtain ⟨rfl, rfl, rfl⟩ := trodAll_nil r1
  obtain rfl : args = #[v0, v1] := by cases args; simp_all
  obtain ⟨rfl, rfl⟩ := trodVars_none hV
  obtain ⟨A0, n0, c0, l0, rfl, hnc0, hcm0, hl0, hr0, hw0⟩ := open_ReadingS (hval 0 28 v0 rfl rfl) h0
  obtain ⟨A1, n1, c1, l1, rfl, hnc1, hcm1, hl1, hr1, hw1⟩ := open_ReadingS (hval 1 28 v1 rfl rfl) h1
  clear hA0 hval0
  refine (walk W A0 n0 c0 l0 hl0 (Nat.le_trans hnc0 hcm0) hr0 hw0 A1 n1 c1 l1 hl1 (Nat.le_trans hnc1 hcm1) hr1 hw1).mono fun e W' ⟨he, hB⟩ => ?_
  subst he
  exact ⟨_, rfl, law_post laidOut Try.underlying4 rfl (by kernel_rfl) (by kernel_rfl) hW' rfl rfl rfl hB⟩

theorem proved : Rows.FnExactSameReadingsSaid :=
  OpenClaim.holds_of_wide 5 Try.f5 rfl rfl rfl rfl rfl rfl rfl ⟨rfl, rfl, rfl, rfl, rfl⟩ rfl rfl rfl rfl rfl (by kernel_rfl) Try.func5 (by kernel_rfl)
    (of_decide_eq_true (by kernel_rfl)) (by unfold Func.isWrapper; first | (rw [if_pos (by decide +kernel)]; kernel_rfl) | (rw [if_neg (by decide +kernel)]; exact ⟨rfl, rfl⟩))
    (fun os started H enc _ => lifted os started H enc)
#print axioms proved
end fnExactSameReadings
end Go.Proofs.Ytlinjlpcofhdhaa
