/-
  FnExactNewControl: the law answers true at every input, and the input reads behind the call as it read before. No condition.
-/
import Derived.Test.YtggklhjhlnkahaaFrame
import Derived.WalkKit
import Derived.WalkSpells
import Derived.WalkLawsBesides
import Derived.Test.YtggklhjhlnkahaaA
namespace Go.Proofs.Ytggklhjhlnkahaa
open Go.ChangeShapes Go.WideShapes Go.ChangeAt Go.RowKit
namespace fnExactNewControl
set_option linter.unusedVariables false
set_option maxHeartbeats 1000000 in
theorem walk (x0 : Int) (b0 : (Lit.int .i64 x0).wf = true) (x1 : Int) (b1 : (Lit.int .i64 x1).wf = true) (x2 : Int) (b2 : (Lit.int .i64 x2).wf = true) (w : World) :
    Calls Try.prog 14 #[.int .i64 x0, .int .i64 x1, .int .i64 x2] w fun e w' => e = .returned (.bool true) ∧ Below w.heap.size w w' := by
  by_cases h : 0 ≤ x0 ∧ x0 ≤ 23 ∧ 0 ≤ x1 ∧ x1 ≤ 23 ∧ 0 ≤ x2 ∧ x2 ≤ 23
  · obtain ⟨k0, k1, k2, k3, k4, k5⟩ := h
    by_cases he : x0 = x1
    · obtain rfl := he
      go_enter Try.func14, Try.ntmps14
      go_wp2_with fail
      refine (specNewControl_ok_eq _ _ k0 k1 k4 k5 _).mono ?_
      rintro e w1 ⟨rfl, hb1⟩
      obtain ⟨hc1, hf1⟩ := bcell hb1
      have hs1 := hb1.size
      go_wp2_with fail
      refine (implNewControl_ok_eq _ _ k0 k1 k4 k5 _).mono ?_
      rintro e w2 ⟨rfl, hb2⟩
      obtain ⟨hc2, hf2⟩ := bcell hb2
      have hs2 : w1.heap.size < w2.heap.size := by have h := hb2.size; simp at h; omega
      go_wp2_with fail
      refine (eqControl_same _ _ _ _ _ _).mono ?_
      rintro e w3 ⟨rfl, hb3⟩
      go_wp2_with fail
      go_ret
      exact ⟨rfl, (((hb1.alloc hs1 _).trans (hb2.mono (by simp; omega))).alloc (by omega) _).trans (hb3.mono (by simp; omega))⟩
    · have hne : (x0 == x1) = false := by simpa using he
      go_enter Try.func14, Try.ntmps14
      go_wp2_with fail
      refine (specNewControl_ok_ne _ _ _ k0 k1 k2 k3 k4 k5 hne _).mono ?_
      rintro e w1 ⟨rfl, hb1⟩
      obtain ⟨hc1, hf1⟩ := bcell hb1
      have hs1 := hb1.size
      go_wp2_with fail
      refine (implNewControl_ok_ne _ _ _ k0 k1 k2 k3 k4 k5 hne _).mono ?_
      rintro e w2 ⟨rfl, hb2⟩
      obtain ⟨hc2, hf2⟩ := bcell hb2
      have hs2 : w1.heap.size < w2.heap.size := by have h := hb2.size; simp at h; omega
      go_wp2_with fail
      refine (eqControl_same _ _ _ _ _ _).mono ?_
      rintro e w3 ⟨rfl, hb3⟩
      go_wp2_with fail
      go_ret
      exact ⟨rfl, (((hb1.alloc hs1 _).trans (hb2.mono (by simp; omega))).alloc (by omega) _).trans (hb3.mono (by simp; omega))⟩
  · skip
    go_enter Try.func14, Try.ntmps14
    go_wp2_with fail
    refine (specNewControl_bad _ _ _ h _).mono ?_
    rintro e w1 ⟨rfl, hb1⟩
    obtain ⟨hc1, hf1⟩ := bcell hb1
    have hs1 := hb1.size
    go_wp2_with fail
    refine (implNewControl_bad _ _ _ h _).mono ?_
    rintro e w2 ⟨rfl, hb2⟩
    obtain ⟨hc2, hf2⟩ := bcell hb2
    have hs2 : w1.heap.size < w2.heap.size := by have h := hb2.size; simp at h; omega
    go_wp2_with fail
    refine (eqControl_same _ _ _ _ _ _).mono ?_
    rintro e w3 ⟨rfl, hb3⟩
    go_wp2_with fail
    go_ret
    exact ⟨rfl, (((hb1.alloc hs1 _).trans (hb2.mono (by simp; omega))).alloc (by omega) _).trans (hb3.mono (by simp; omega))⟩

set_option maxRecDepth 100000 in
theorem lifted (os : Os) (started : os.Started) (H : Type) (enc : TypeId × Value → H) :
    ReturnsInHanded {} Try.checked os 14 .any (Rows.fnExactNewControlSpec.pre6 enc Try.prog Try.f14 Rows.fnExactNewControlRow.domain false) (Rows.fnExactNewControlSpec.post enc Try.prog Try.f14 false true false false) := by
  refine returnsInHanded_of_change (C := Try.checked) own started (by kernel_rfl) Try.func14
    (ChangeSpec.witness6 (enc := enc) (C := Try.checked) false ⟨#[], #[.int .i64 0, .int .i64 0, .int .i64 0], []⟩ 8 (by kernel_rfl) (by kernel_rfl) (by kernel_rfl) (by kernel_rfl)) ?_
  intro W base args ds gs before hval0 hW hcnd _
  have hval : ∀ (j : Nat) t v, Try.f14.params[j]? = some t → args[j]? = some v → Value.okWide Try.prog W .any base t v := hval0
  have hW' := hW
  obtain ⟨p, q, hA0, hV, rfl, hfz, hnd⟩ := hW
  have hA : DataW.TrodAll enc Try.prog W 0 (fun _ => true) true Try.f14.params.toList args.toList ds p := hA0
  rw [Try.params14] at hA hval
  obtain ⟨v0, vs0, d0, ds0, p0, q0, hargs, rfl, rfl, h0, r0⟩ := trodAll_cons hA
  obtain ⟨v1, vs1, d1, ds1, p1, q1, rfl, rfl, rfl, h1, r1⟩ := trodAll_cons r0
  obtain ⟨v2, vs2, d2, ds2, p2, q2, rfl, rfl, rfl, h2, r2⟩ := trodAll_cons r1
  obtain ⟨rfl, rfl, rfl⟩ := trodAll_nil r2
  obtain rfl : args = #[v0, v1, v2] := by cases args; simp_all
  obtain ⟨rfl, rfl⟩ := trodVars_none hV
  obtain ⟨x0, rfl, rfl, rfl, b0⟩ := open_int Try.underlying2 (hval 0 2 v0 rfl rfl) h0
  obtain ⟨x1, rfl, rfl, rfl, b1⟩ := open_int Try.underlying2 (hval 1 2 v1 rfl rfl) h1
  obtain ⟨x2, rfl, rfl, rfl, b2⟩ := open_int Try.underlying2 (hval 2 2 v2 rfl rfl) h2
  clear hA0 hval0
  refine (walk x0 b0 x1 b1 x2 b2 W).mono fun e W' ⟨he, hB⟩ => ?_
  subst he
  exact ⟨_, rfl, law_post laidOut Try.underlying4 rfl (by kernel_rfl) (by kernel_rfl) hW' rfl rfl rfl hB⟩

theorem proved : Rows.FnExactNewControlSaid :=
  OpenClaim.holds_of_wide 14 Try.f14 rfl rfl rfl rfl rfl rfl rfl ⟨rfl, rfl, rfl, rfl, rfl⟩ rfl rfl rfl rfl rfl (by kernel_rfl) Try.func14 (by kernel_rfl)
    (of_decide_eq_true (by kernel_rfl)) (by unfold Func.isWrapper; first | (rw [if_pos (by decide +kernel)]; kernel_rfl) | (rw [if_neg (by decide +kernel)]; exact ⟨rfl, rfl⟩))
    (fun os started H enc _ => lifted os started H enc)
#print axioms proved
end fnExactNewControl
end Go.Proofs.Ytggklhjhlnkahaa
