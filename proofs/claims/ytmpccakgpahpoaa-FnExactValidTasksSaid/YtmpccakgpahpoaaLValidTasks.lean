/-
  FnExactValidTasks: the law answers true at every input, and the input reads behind the call as it read before. No condition.
-/
import Derived.Test.YtmpccakgpahpoaaFrame
import Derived.Test.YtmpccakgpahpoaaFacts
import Derived.WalkKit
import Derived.WalkSpells
import Derived.WalkLawsBesides
import Derived.Deep.RegionWith
import Derived.Deep.DeepCutAuto
import Derived.Test.YtmpccakgpahpoaaOpnTask
import Derived.Test.YtmpccakgpahpoaaTask
namespace Go.Proofs.Ytmpccakgpahpoaa
open Go.ChangeShapes Go.WideShapes Go.ChangeAt Go.RowKit
namespace fnExactValidTasks
set_option linter.unusedVariables false
set_option maxRecDepth 100000 in
set_option maxHeartbeats 4000000 in
theorem walk (w : World) (A0 : Option Addr) (n0 c0 : Nat) (l0 : List (Int × Int × Int × Int)) (hl0 : l0.length = n0) (hm0 : n0 ≤ maxLen) (hr0 : Rd w 0 w.heap.size 4 A0 n0 (rTask l0)) (hw0 : ∀ p ∈ l0, (Lit.int .i64 p.1).wf = true ∧ (Lit.int .i64 p.2.1).wf = true ∧ (Lit.int .i64 p.2.2.1).wf = true ∧ (Lit.int .i64 p.2.2.2).wf = true) :
    Calls Try.prog 3 #[.slice A0 n0 c0] w fun e w' => e = .returned (.bool true) ∧ Below w.heap.size w w' := by
  by_cases hn0 : n0 ≤ 1048576
  · skip
    clear hm0 hw0
    go_enter Try.func3, Try.ntmps3
    go_wp2_with fail
    refine (szTaskS_ok A0 n0 c0 _ (by omega) (by omega) _).mono ?_
    rintro e w' ⟨rfl, rfl⟩
    go_wp2_with fail
    refine (toTaskS_any A0 n0 c0 0 w.heap.size l0 hn0 _ hl0 hr0 (by omega)).mono ?_
    rintro e w1 ⟨va, rfl, hoa, hb1⟩
    have hs1 := hb1.size
    replace hr0 := hr0.below hb1 (by omega)
    obtain ⟨Aa, ca, rfl, hnca, hcma, hra⟩ := hoa.rd
    go_wp2_with fail
    refine (specValidTasks_any Aa n0 ca w.heap.size w1.heap.size l0 hn0 _ hl0 hra (by omega)).mono ?_
    rintro e w2 ⟨rfl, hb2⟩
    have hs2 := hb2.size
    replace hr0 := hr0.below hb2 (by omega)
    replace hra := hra.below hb2 (by omega)
    replace hoa := hoa.below hb2 (by omega)
    go_wp2_with fail
    refine (toTaskS_any A0 n0 c0 0 w.heap.size l0 hn0 _ hl0 hr0 (by omega)).mono ?_
    rintro e w3 ⟨vb, rfl, hob, hb3⟩
    have hs3 := hb3.size
    replace hr0 := hr0.below hb3 (by omega)
    obtain ⟨Ab, cb, rfl, hncb, hcmb, hrb⟩ := hob.rd
    go_wp2_with fail
    refine (implValidTasks_any Ab n0 cb w2.heap.size w3.heap.size l0 hn0 _ hl0 hrb (by omega)).mono ?_
    rintro e w4 ⟨rfl, hb4⟩
    have hs4 := hb4.size
    replace hr0 := hr0.below hb4 (by omega)
    replace hrb := hrb.below hb4 (by omega)
    replace hob := hob.below hb4 (by omega)
    go_wp2_with fail
    refine (toTaskS_any A0 n0 c0 0 w.heap.size l0 hn0 _ hl0 hr0 (by omega)).mono ?_
    rintro e w5 ⟨vc, rfl, hoc, hb5⟩
    have hs5 := hb5.size
    replace hr0 := hr0.below hb5 (by omega)
    replace hrb := hrb.below hb5 (by omega)
    replace hob := hob.below hb5 (by omega)
    obtain ⟨Ac, cc, rfl, hncc, hcmc, hrc⟩ := hoc.rd
    go_wp2_with fail
    refine (eqTaskS_same Ab Ac n0 cb cc w2.heap.size w3.heap.size w4.heap.size w5.heap.size l0 hn0 _ hl0 hrb hrc (by omega) (by omega)).mono ?_
    rintro e w6 ⟨rfl, hb6⟩
    have hs6 := hb6.size
    replace hr0 := hr0.below hb6 (by omega)
    replace hrb := hrb.below hb6 (by omega)
    replace hob := hob.below hb6 (by omega)
    replace hrc := hrc.below hb6 (by omega)
    replace hoc := hoc.below hb6 (by omega)
    go_wp2_with fail
    go_ret
    exact ⟨rfl, ((((((Below.refl _ _).trans (hb1.mono (by omega))).trans (hb2.mono (by omega))).trans (hb3.mono (by omega))).trans (hb4.mono (by omega))).trans (hb5.mono (by omega))).trans (hb6.mono (by omega))⟩
  · clear hr0 hl0 hw0
    go_enter Try.func3, Try.ntmps3
    go_wp2_with fail
    refine (szTaskS_big A0 n0 c0 _ (by omega) (by omega) (by omega) hm0 _).mono ?_
    rintro e w' ⟨rfl, rfl⟩
    go_wp2_with fail
    go_ret
    exact ⟨rfl, Below.refl _ _⟩

set_option maxRecDepth 100000 in
theorem lifted (os : Os) (started : os.Started) (H : Type) (enc : TypeId × Value → H) :
    ReturnsInHanded {} Try.checked os 3 .any (Rows.fnExactValidTasksSpec.pre6 enc Try.prog Try.f3 Rows.fnExactValidTasksRow.domain false) (Rows.fnExactValidTasksSpec.post enc Try.prog Try.f3 false true false false) := by
  refine returnsInHanded_of_change (C := Try.checked) own started (by kernel_rfl) Try.func3
    (ChangeSpec.witness6 (enc := enc) (C := Try.checked) false ⟨#[], #[.slice none 0 0], []⟩ 8 (by kernel_rfl) (by kernel_rfl) (by kernel_rfl) (by kernel_rfl)) ?_
  intro W base args ds gs before hval0 hW hcnd _
  have hval : ∀ (j : Nat) t v, Try.f3.params[j]? = some t → args[j]? = some v → Value.okWide Try.prog W .any base t v := hval0
  have hW' := hW
  obtain ⟨p, q, hA0, hV, rfl, hfz, hnd⟩ := hW
  have hA : DataW.TrodAll enc Try.prog W 0 (fun _ => true) true Try.f3.params.toList args.toList ds p := hA0
  rw [Try.params3] at hA hval
  obtain ⟨v0, vs0, d0, ds0, p0, q0, hargs, rfl, rfl, h0, r0⟩ := trodAll_cons hA
  obtain ⟨rfl, rfl, rfl⟩ := trodAll_nil r0
  obtain rfl : args = #[v0] := by cases args; simp_all
  obtain ⟨rfl, rfl⟩ := trodVars_none hV
  obtain ⟨A0, n0, c0, l0, rfl, hnc0, hcm0, hl0, hr0, hw0⟩ := open_TaskS (hval 0 22 v0 rfl rfl) h0
  clear hA0 hval0
  refine (walk W A0 n0 c0 l0 hl0 (Nat.le_trans hnc0 hcm0) hr0 hw0).mono fun e W' ⟨he, hB⟩ => ?_
  subst he
  exact ⟨_, rfl, law_post laidOut Try.underlying4 rfl (by kernel_rfl) (by kernel_rfl) hW' rfl rfl rfl hB⟩

theorem proved : Rows.FnExactValidTasksSaid :=
  OpenClaim.holds_of_wide 3 Try.f3 rfl rfl rfl rfl rfl rfl rfl ⟨rfl, rfl, rfl, rfl, rfl⟩ rfl rfl rfl rfl rfl (by kernel_rfl) Try.func3 (joined rfl rfl rfl (by kernel_rfl))
    (of_decide_eq_true (by kernel_rfl)) (by unfold Func.isWrapper; first | (rw [if_pos (by decide +kernel)]; kernel_rfl) | (rw [if_neg (by decide +kernel)]; exact ⟨rfl, rfl⟩))
    (fun os started H enc _ => lifted os started H enc)
#print axioms proved
end fnExactValidTasks
end Go.Proofs.Ytmpccakgpahpoaa
