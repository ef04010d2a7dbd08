/-
  FnExactSwingDirections: the law answers true at every input, and the input reads behind the call as it read before. No condition.
-/
import Derived.Test.YtlinjlpcofhdhaaFrame
import Derived.WalkKit
import Derived.WalkSpells
import Derived.WalkLawsBesides
import Derived.Test.YtlinjlpcofhdhaaSwDir
namespace Go.Proofs.Ytlinjlpcofhdhaa
open Go.ChangeShapes Go.WideShapes Go.ChangeAt Go.RowKit
namespace fnExactSwingDirections
set_option linter.unusedVariables false
set_option maxHeartbeats 1000000 in
theorem walk (w : World) (x0 : Int) (b0 : (Lit.int .i64 x0).wf = true) (x1 : Int) (b1 : (Lit.int .i64 x1).wf = true) :
    Calls Try.prog 6 #[.int .i64 x0, .int .i64 x1] w fun e w' => e = .returned (.bool true) ∧ Below w.heap.size w w' := by
  have hL : (swRes x0 x1).length ≤ 1048576 := Nat.le_trans (swRes_len x0 x1) (by omega)
  go_enter Try.func6, Try.ntmps6
  go_wp2_with fail
  refine (specSwingDirections_any x0 x1 _).mono ?_
  rintro e w1 ⟨vs, rfl, hos, hb1⟩
  have hs1 := hb1.size
  obtain ⟨As, cs, rfl, hncs, hcms, hrs⟩ := hos.rd
  go_wp2_with fail
  refine (implSwingDirections_any x0 x1 _).mono ?_
  rintro e w2 ⟨vg, rfl, hog, hb2⟩
  have hs2 := hb2.size
  replace hrs := hrs.below hb2 (by omega)
  replace hos := hos.below hb2 (by omega)
  obtain ⟨Ag, cg, rfl, hncg, hcmg, hrg⟩ := hog.rd
  go_wp2_with fail
  refine (eqInt64S_same Ag As _ cg cs w1.heap.size w2.heap.size w.heap.size w1.heap.size (swRes x0 x1) (hL) _ rfl hrg hrs (by omega) (by omega)).mono ?_
  rintro e w3 ⟨rfl, hb3⟩
  have hs3 := hb3.size
  replace hrs := hrs.below hb3 (by omega)
  replace hos := hos.below hb3 (by omega)
  replace hrg := hrg.below hb3 (by omega)
  replace hog := hog.below hb3 (by omega)
  go_wp2_with fail
  refine (markInt64S_any _ _ w1.heap.size w2.heap.size _ _ (by omega) (by omega) (hL) _ hog (by omega)).mono ?_
  rintro e w4 ⟨rfl, hom, ht4⟩
  have hs4 := ht4.size
  replace hrs := hrs.tch ht4 (by omega) (by omega)
  replace hos := hos.tch ht4 (by omega)
  obtain ⟨_, _, hem, _, _, hrm⟩ := hom.rd
  injection hem with e1 e2 e3; subst e1; subst e3; clear e2
  go_wp2_with fail
  refine (heldInt64S_any Ag _ cg w1.heap.size w2.heap.size _ (by omega) (by omega) (hL) _ hrm).mono ?_
  rintro e w' ⟨rfl, rfl⟩
  go_wp2_with fail
  refine (implSwingDirections_any x0 x1 _).mono ?_
  rintro e w5 ⟨vh, rfl, hoh, hb5⟩
  have hs5 := hb5.size
  replace hrs := hrs.below hb5 (by omega)
  replace hos := hos.below hb5 (by omega)
  replace hrm := hrm.below hb5 (by omega)
  replace hom := hom.below hb5 (by omega)
  obtain ⟨Ah, ch, rfl, hnch, hcmh, hrh⟩ := hoh.rd
  go_wp2_with fail
  refine (eqInt64S_same Ah As _ ch cs w4.heap.size w5.heap.size w.heap.size w1.heap.size (swRes x0 x1) (hL) _ rfl hrh hrs (by omega) (by omega)).mono ?_
  rintro e w6 ⟨rfl, hb6⟩
  have hs6 := hb6.size
  replace hrs := hrs.below hb6 (by omega)
  replace hos := hos.below hb6 (by omega)
  replace hrm := hrm.below hb6 (by omega)
  replace hom := hom.below hb6 (by omega)
  replace hrh := hrh.below hb6 (by omega)
  replace hoh := hoh.below hb6 (by omega)
  go_wp2_with fail
  refine (heldInt64S_any Ag _ cg w1.heap.size w2.heap.size _ (by omega) (by omega) (hL) _ hrm).mono ?_
  rintro e w' ⟨rfl, rfl⟩
  go_wp2_with fail
  go_ret
  exact ⟨rfl, ((((((Below.refl _ _).trans (hb1.mono (by omega))).trans (hb2.mono (by omega))).trans (hb3.mono (by omega))).trans ((ht4.below (by omega)).mono (by omega))).trans (hb5.mono (by omega))).trans (hb6.mono (by omega))⟩

set_option maxRecDepth 100000 in
theorem lifted (os : Os) (started : os.Started) (H : Type) (enc : TypeId × Value → H) :
    ReturnsInHanded {} Try.checked os 6 .any (Rows.fnExactSwingDirectionsSpec.pre6 enc Try.prog Try.f6 Rows.fnExactSwingDirectionsRow.domain false) (Rows.fnExactSwingDirectionsSpec.post enc Try.prog Try.f6 false true false false) := by
  refine returnsInHanded_of_change (C := Try.checked) own started (by kernel_rfl) Try.func6
    (ChangeSpec.witness6 (enc := enc) (C := Try.checked) false ⟨#[], #[.int .i64 0, .int .i64 0], []⟩ 8 (by kernel_rfl) (by kernel_rfl) (by kernel_rfl) (by kernel_rfl)) ?_
  intro W base args ds gs before hval0 hW hcnd _
  have hval : ∀ (j : Nat) t v, Try.f6.params[j]? = some t → args[j]? = some v → Value.okWide Try.prog W .any base t v := hval0
  have hW' := hW
  obtain ⟨p, q, hA0, hV, rfl, hfz, hnd⟩ := hW
  have hA : DataW.TrodAll enc Try.prog W 0 (fun _ => true) true Try.f6.params.toList args.toList ds p := hA0
  rw [Try.params6] at hA hval
  obtain ⟨v0, vs0, d0, ds0, p0, q0, hargs, rfl, rfl, h0, r0⟩ := trodAll_cons hA
  obtain ⟨v1, vs1, d1, ds1, p1, q1, rfl, rfl, rfl, h1, r1⟩ := trodAll_cons r0
  obtain ⟨rfl, rfl, rfl⟩ := trodAll_nil r1
  obtain rfl : args = #[v0, v1] := by cases args; simp_all
  obtain ⟨rfl, rfl⟩ := trodVars_none hV
  obtain ⟨x0, rfl, rfl, rfl, b0⟩ := open_int Try.underlying2 (hval 0 2 v0 rfl rfl) h0
  obtain ⟨x1, rfl, rfl, rfl, b1⟩ := open_int Try.underlying2 (hval 1 2 v1 rfl rfl) h1
  clear hA0 hval0
  refine (walk W x0 b0 x1 b1).mono fun e W' ⟨he, hB⟩ => ?_
  subst he
  exact ⟨_, rfl, law_post laidOut Try.underlying4 rfl (by kernel_rfl) (by kernel_rfl) hW' rfl rfl rfl hB⟩

theorem proved : Rows.FnExactSwingDirectionsSaid :=
  OpenClaim.holds_of_wide 6 Try.f6 rfl rfl rfl rfl rfl rfl rfl ⟨rfl, rfl, rfl, rfl, rfl⟩ rfl rfl rfl rfl rfl (by kernel_rfl) Try.func6 (by kernel_rfl)
    (of_decide_eq_true (by kernel_rfl)) (by unfold Func.isWrapper; first | (rw [if_pos (by decide +kernel)]; kernel_rfl) | (rw [if_neg (by decide +kernel)]; exact ⟨rfl, rfl⟩))
    (fun os started H enc _ => lifted os started H enc)
#print axioms proved
end fnExactSwingDirections
end Go.Proofs.Ytlinjlpcofhdhaa
