/-
  FnExactHearOther: the law answers true at every input, and the input reads behind the call as it read before. No condition.
-/
import Derived.Test.YtdephdfhopbjpaaFrame
import Derived.Test.YtdephdfhopbjpaaFacts
import Derived.WalkKit
import Derived.WalkSpells
import Derived.WalkLawsBesides
import Derived.Deep.RegionWith
import Derived.Deep.DeepCutAuto
import Derived.Test.YtdephdfhopbjpaaControl
namespace Go.Proofs.Ytdephdfhopbjpaa
open Go.ChangeShapes Go.WideShapes Go.ChangeAt Go.RowKit
namespace fnExactHearOther
set_option linter.unusedVariables false
set_option maxHeartbeats 1000000 in
theorem walk (w : World) (x0_0 x0_1 x0_2 x0_3 x0_4 : Int) (b0_0 : (Lit.int .i64 x0_0).wf = true) (b0_1 : (Lit.int .i64 x0_1).wf = true) (b0_2 : (Lit.int .i64 x0_2).wf = true) (b0_3 : (Lit.int .i64 x0_3).wf = true) (b0_4 : (Lit.int .i64 x0_4).wf = true) (x1 : Bool) (x2 : Int) (b2 : (Lit.int .i64 x2).wf = true) :
    Calls Try.prog 5 #[.agg #[.int .i64 x0_0, .int .i64 x0_1, .int .i64 x0_2, .int .i64 x0_3, .int .i64 x0_4], .bool x1, .int .i64 x2] w fun e w' => e = .returned (.bool true) ∧ Below w.heap.size w w' := by
  go_enter Try.func5, Try.ntmps5
  go_wp2_with fail
  refine (toControl_any _ _ _ _ _ _).mono ?_
  rintro e w1 ⟨rfl, hb1⟩
  obtain ⟨hc1, hf1⟩ := bcell hb1
  have hs1 : w.heap.size < w1.heap.size := by have h := hb1.size; simp at h; omega
  have B1 : Below w.heap.size w w1 := ((Below.refl _ _).alloc (Nat.le_refl _) _).trans (hb1.mono (by simp))
  have a0 : w1.cell? ⟨w.heap.size, 0, none⟩ = some (.int .i64 x0_0) := (hc1 _ _ (by simp)).trans (by go_simp)
  have a1 : w1.cell? ⟨w.heap.size, 1, none⟩ = some (.int .i64 x0_1) := (hc1 _ _ (by simp)).trans (by go_simp)
  have a2 : w1.cell? ⟨w.heap.size, 2, none⟩ = some (.int .i64 x0_2) := (hc1 _ _ (by simp)).trans (by go_simp)
  have a3 : w1.cell? ⟨w.heap.size, 3, none⟩ = some (.int .i64 x0_3) := (hc1 _ _ (by simp)).trans (by go_simp)
  have a4 : w1.cell? ⟨w.heap.size, 4, none⟩ = some (.int .i64 x0_4) := (hc1 _ _ (by simp)).trans (by go_simp)
  clear hc1 hf1
  go_wp2_with fail
  refine (specHearOther_any _ _ _ _ _ _ _ _).mono ?_
  rintro e w2 ⟨rfl, hb2⟩
  obtain ⟨hc2, hf2⟩ := bcell hb2
  have hs2 : w.heap.size < w2.heap.size := by have h := hb2.size; omega
  have B2 : Below w.heap.size w w2 := B1.trans (hb2.mono (Nat.le_of_lt hs1))
  have b0 := (hc2 w.heap.size 0 hs1).trans a0
  have b1 := (hc2 w.heap.size 1 hs1).trans a1
  have b2 := (hc2 w.heap.size 2 hs1).trans a2
  have b3 := (hc2 w.heap.size 3 hs1).trans a3
  have b4 := (hc2 w.heap.size 4 hs1).trans a4
  clear hc2 hf2 a0 a1 a2 a3 a4
  go_wp2_with fail
  refine (toControl_any _ _ _ _ _ _).mono ?_
  rintro e w3 ⟨rfl, hb3⟩
  obtain ⟨hc3, hf3⟩ := bcell hb3
  have hs3 : w2.heap.size < w3.heap.size := by have h := hb3.size; simp at h; omega
  have B3 : Below w.heap.size w w3 := (B2.alloc (Nat.le_of_lt hs2) _).trans (hb3.mono (by simp; omega))
  clear b0 b1 b2 b3 b4
  go_wp2_with fail
  refine (implHearOther_any _ _ _ _ _ _ _ _).mono ?_
  rintro e w4 ⟨rfl, hb4⟩
  obtain ⟨hc4, hf4⟩ := bcell hb4
  have hs4 : w2.heap.size < w4.heap.size := by have h := hb4.size; omega
  have B4 : Below w.heap.size w w4 := B3.trans (hb4.mono (by omega))
  go_wp2_with fail
  refine (eqControl_same _ _ _ _ _ _).mono ?_
  rintro e w5 ⟨rfl, hb5⟩
  go_wp2_with fail
  go_ret
  exact ⟨rfl, (B4.alloc (by omega) _).trans (hb5.mono (by simp; omega))⟩

set_option maxRecDepth 100000 in
theorem lifted (os : Os) (started : os.Started) (H : Type) (enc : TypeId × Value → H) :
    ReturnsInHanded {} Try.checked os 5 .any (Rows.fnExactHearOtherSpec.pre6 enc Try.prog Try.f5 Rows.fnExactHearOtherRow.domain false) (Rows.fnExactHearOtherSpec.post enc Try.prog Try.f5 false true false false) := by
  refine returnsInHanded_of_change (C := Try.checked) own started (by kernel_rfl) Try.func5
    (ChangeSpec.witness6 (enc := enc) (C := Try.checked) false ⟨#[], #[.agg #[.int .i64 0, .int .i64 0, .int .i64 0, .int .i64 0, .int .i64 0], .bool false, .int .i64 0], []⟩ 8 (by kernel_rfl) (by kernel_rfl) (by kernel_rfl) (by kernel_rfl)) ?_
  intro W base args ds gs before hval0 hW hcnd _
  have hval : ∀ (j : Nat) t v, Try.f5.params[j]? = some t → args[j]? = some v → Value.okWide Try.prog W .any base t v := hval0
  have hW' := hW
  obtain ⟨p, q, hA0, hV, rfl, hfz, hnd⟩ := hW
  have hA : DataW.TrodAll enc Try.prog W 0 (fun _ => true) true Try.f5.params.toList args.toList ds p := hA0
  rw [Try.params5] at hA hval
  obtain ⟨v0, vs0, d0, ds0, p0, q0, hargs, rfl, rfl, h0, r0⟩ := trodAll_cons hA
  obtain ⟨v1, vs1, d1, ds1, p1, q1, rfl, rfl, rfl, h1, r1⟩ := trodAll_cons r0
  obtain ⟨v2, vs2, d2, ds2, p2, q2, rfl, rfl, rfl, h2, r2⟩ := trodAll_cons r1
  obtain ⟨rfl, rfl, rfl⟩ := trodAll_nil r2
  obtain rfl : args = #[v0, v1, v2] := by cases args; simp_all
  obtain ⟨rfl, rfl⟩ := trodVars_none hV
  obtain ⟨l0, hl0, rfl, hw0⟩ := open_ints_struct (k := .i64) Try.underlying52 (by kernel_rfl) (by kernel_rfl) (hval 0 52 v0 rfl rfl) h0
  obtain ⟨x0_0, x0_1, x0_2, x0_3, x0_4, rfl⟩ := list5 (show l0.length = 5 from hl0)
  obtain ⟨x1, rfl, rfl, rfl⟩ := open_bool Try.underlying4 (hval 1 4 v1 rfl rfl) h1
  obtain ⟨x2, rfl, rfl, rfl, b2⟩ := open_int Try.underlying2 (hval 2 2 v2 rfl rfl) h2
  clear hA0 hval0
  refine (walk W x0_0 x0_1 x0_2 x0_3 x0_4 (hw0 x0_0 (by simp)) (hw0 x0_1 (by simp)) (hw0 x0_2 (by simp)) (hw0 x0_3 (by simp)) (hw0 x0_4 (by simp)) x1 x2 b2).mono fun e W' ⟨he, hB⟩ => ?_
  subst he
  exact ⟨_, rfl, law_post laidOut Try.underlying4 rfl (by kernel_rfl) (by kernel_rfl) hW' rfl rfl rfl hB⟩

theorem proved : Rows.FnExactHearOtherSaid :=
  OpenClaim.holds_of_wide 5 Try.f5 rfl rfl rfl rfl rfl rfl rfl ⟨rfl, rfl, rfl, rfl, rfl⟩ rfl rfl rfl rfl rfl (by kernel_rfl) Try.func5 (joined rfl rfl rfl (by kernel_rfl))
    (of_decide_eq_true (by kernel_rfl)) (by unfold Func.isWrapper; first | (rw [if_pos (by decide +kernel)]; kernel_rfl) | (rw [if_neg (by decide +kernel)]; exact ⟨rfl, rfl⟩))
    (fun os started H enc _ => lifted os started H enc)
#print axioms proved
end fnExactHearOther
end Go.Proofs.Ytdephdfhopbjpaa
