/-
  FnExactCheckRoute: the law answers true at every input, and the input reads behind the call as it read before. No condition.
-/
import Derived.Test.YthpoapkdlcoikaaFrame
import Derived.Test.YthpoapkdlcoikaaFacts
import Derived.WalkKit
import Derived.WalkSpells
import Derived.WalkLawsBesides
import Derived.Deep.RegionWith
import Derived.Deep.DeepCutAuto
import Derived.Test.YthpoapkdlcoikaaOpnSBool
import Derived.Test.YthpoapkdlcoikaaOpnSInt64
import Derived.Test.YthpoapkdlcoikaaChk
import Derived.Test.YthpoapkdlcoikaaBox
import Derived.Test.YthpoapkdlcoikaaStructs
namespace Go.Proofs.Ythpoapkdlcoikaa
open Go.ChangeShapes Go.WideShapes Go.ChangeAt Go.RowKit
namespace fnExactCheckRoute
set_option linter.unusedVariables false
set_option maxRecDepth 100000 in
set_option maxHeartbeats 4000000 in
theorem walk (w : World) (A0 : Option Addr) (n0 c0 : Nat) (l0 : List (List Bool)) (hm0 : n0 ≤ maxLen) (hr0 : RdSS w 0 w.heap.size A0 n0 (rrBool l0)) (hw0 : ∀ r ∈ l0, ∀ p ∈ r, True) (A1 : Option Addr) (n1 c1 : Nat) (l1 : List (List Int)) (hm1 : n1 ≤ maxLen) (hr1 : RdSS w 0 w.heap.size A1 n1 (rrInt64 l1)) (hw1 : ∀ r ∈ l1, ∀ p ∈ r, (Lit.int .i64 p).wf = true) :
    Calls Try.prog 4 #[.slice A0 n0 c0, .slice A1 n1 c1] w fun e w' => e = .returned (.bool true) ∧ Below w.heap.size w w' := by
  by_cases hq : (n0 : Int) + (tot (rrBool l0) n0 : Nat) ≤ 1048576
  · skip
    by_cases hq2 : (n1 : Int) + (tot (rrInt64 l1) n1 : Nat) ≤ 1048576 - n0 - (tot (rrBool l0) n0 : Nat)
    · skip
      have hn : n0 ≤ 1048576 := by omega
      have hl0 : l0.length = n0 := by have := hr0.length; rw [rrBool_len] at this; exact this
      have hrow : ∀ r ∈ l0, r.length ≤ 1048576 := fun r hr => by have := rows_small (f := rrBool) (fun k => by rw [rrBool_at, rBool_len1]) hr0.length hl0 hq r hr; omega
      have hrow1 : ∀ r ∈ l1, r.length ≤ 1048576 := fun r hr => by have := rows_smallI hr1.length hq2 r hr; omega
      have HROW := hide hrow
      have HROW1 := hide hrow1
      have hn1 : n1 ≤ 1048576 := by omega
      clear hm0 hw0 hrow hl0 hrow1 hw1 hm1
      go_enter Try.func4, Try.ntmps4
      go_wp2_with fail
      refine (szBoolSS_ok A0 n0 c0 0 w.heap.size l0 _ hq (by omega) _ hr0).mono ?_
      rintro e w' ⟨rfl, rfl⟩
      go_wp2_with fail
      refine (szInt64SS_ok A1 n1 c1 0 w.heap.size l1 _ hq2 (by omega) _ hr1).mono ?_
      rintro e w' ⟨rfl, rfl⟩
      go_wp2_with fail
      refine (toBoolSS_any A0 n0 c0 0 w.heap.size l0 hn HROW.out _ hr0 (by omega)).mono ?_
      rintro e w1 ⟨va, rfl, hoa, hb1⟩
      have hs1 := hb1.size
      replace hr0 := hr0.below hb1 (by omega)
      replace hr1 := hr1.below hb1 (by omega)
      obtain ⟨Aa, ca, rfl, hnca, hcma, hra⟩ := hoa.rd
      go_wp2_with fail
      refine (toInt64SS_any A1 n1 c1 0 w.heap.size l1 hn1 HROW1.out _ hr1 (by omega)).mono ?_
      rintro e w2 ⟨vra, rfl, hora, hb2⟩
      have hs2 := hb2.size
      replace hr0 := hr0.below hb2 (by omega)
      replace hr1 := hr1.below hb2 (by omega)
      replace hra := hra.below hb2 (by omega)
      replace hoa := hoa.below hb2 (by omega)
      obtain ⟨Ara, cra, rfl, hncra, hcmra, hrra⟩ := hora.rd
      go_wp2_with fail
      refine (specCheckRoute_any Aa Ara n0 ca w.heap.size w1.heap.size n1 cra w1.heap.size w2.heap.size l0 l1 (by unfold maxLen; omega) (by unfold maxLen; omega) _ hra (by omega) hrra (by omega)).mono ?_
      rintro e w3 ⟨rfl, hb3⟩
      have hs3 := hb3.size
      replace hr0 := hr0.below hb3 (by omega)
      replace hr1 := hr1.below hb3 (by omega)
      replace hra := hra.below hb3 (by omega)
      replace hoa := hoa.below hb3 (by omega)
      replace hrra := hrra.below hb3 (by omega)
      replace hora := hora.below hb3 (by omega)
      go_wp2_with fail
      refine (toBoolSS_any A0 n0 c0 0 w.heap.size l0 hn HROW.out _ hr0 (by omega)).mono ?_
      rintro e w4 ⟨vb, rfl, hob, hb4⟩
      have hs4 := hb4.size
      replace hr0 := hr0.below hb4 (by omega)
      replace hr1 := hr1.below hb4 (by omega)
      replace hra := hra.below hb4 (by omega)
      replace hoa := hoa.below hb4 (by omega)
      replace hrra := hrra.below hb4 (by omega)
      replace hora := hora.below hb4 (by omega)
      obtain ⟨Ab, cb, rfl, hncb, hcmb, hrb⟩ := hob.rd
      go_wp2_with fail
      refine (toInt64SS_any A1 n1 c1 0 w.heap.size l1 hn1 HROW1.out _ hr1 (by omega)).mono ?_
      rintro e w5 ⟨vrb, rfl, horb, hb5⟩
      have hs5 := hb5.size
      replace hr0 := hr0.below hb5 (by omega)
      replace hr1 := hr1.below hb5 (by omega)
      replace hra := hra.below hb5 (by omega)
      replace hoa := hoa.below hb5 (by omega)
      replace hrra := hrra.below hb5 (by omega)
      replace hora := hora.below hb5 (by omega)
      replace hrb := hrb.below hb5 (by omega)
      replace hob := hob.below hb5 (by omega)
      obtain ⟨Arb, crb, rfl, hncrb, hcmrb, hrrb⟩ := horb.rd
      go_wp2_with fail
      refine (implCheckRoute_any Ab Arb n0 cb w3.heap.size w4.heap.size n1 crb w4.heap.size w5.heap.size l0 l1 (by unfold maxLen; omega) (by unfold maxLen; omega) _ hrb (by omega) hrrb (by omega)).mono ?_
      rintro e w6 ⟨rfl, hb6⟩
      have hs6 := hb6.size
      replace hr0 := hr0.below hb6 (by omega)
      replace hr1 := hr1.below hb6 (by omega)
      replace hra := hra.below hb6 (by omega)
      replace hoa := hoa.below hb6 (by omega)
      replace hrra := hrra.below hb6 (by omega)
      replace hora := hora.below hb6 (by omega)
      replace hrb := hrb.below hb6 (by omega)
      replace hob := hob.below hb6 (by omega)
      replace hrrb := hrrb.below hb6 (by omega)
      replace horb := horb.below hb6 (by omega)
      go_wp2_with fail
      refine (toBoolSS_any A0 n0 c0 0 w.heap.size l0 hn HROW.out _ hr0 (by omega)).mono ?_
      rintro e w7 ⟨vz, rfl, hoz, hb7⟩
      have hs7 := hb7.size
      replace hr0 := hr0.below hb7 (by omega)
      replace hr1 := hr1.below hb7 (by omega)
      replace hra := hra.below hb7 (by omega)
      replace hoa := hoa.below hb7 (by omega)
      replace hrra := hrra.below hb7 (by omega)
      replace hora := hora.below hb7 (by omega)
      replace hrb := hrb.below hb7 (by omega)
      replace hob := hob.below hb7 (by omega)
      replace hrrb := hrrb.below hb7 (by omega)
      replace horb := horb.below hb7 (by omega)
      obtain ⟨Az, cz, rfl, hncz, hcmz, hrz⟩ := hoz.rd
      go_wp2_with fail
      refine (eqBoolSS_same Ab Az n0 cb cz w3.heap.size w4.heap.size w6.heap.size w7.heap.size l0 hn HROW.out _ hrb hrz (by omega) (by omega)).mono ?_
      rintro e w8 ⟨rfl, hb8⟩
      have hs8 := hb8.size
      replace hr0 := hr0.below hb8 (by omega)
      replace hr1 := hr1.below hb8 (by omega)
      replace hra := hra.below hb8 (by omega)
      replace hoa := hoa.below hb8 (by omega)
      replace hrra := hrra.below hb8 (by omega)
      replace hora := hora.below hb8 (by omega)
      replace hrb := hrb.below hb8 (by omega)
      replace hob := hob.below hb8 (by omega)
      replace hrrb := hrrb.below hb8 (by omega)
      replace horb := horb.below hb8 (by omega)
      replace hrz := hrz.below hb8 (by omega)
      replace hoz := hoz.below hb8 (by omega)
      go_wp2_with fail
      refine (toInt64SS_any A1 n1 c1 0 w.heap.size l1 hn1 HROW1.out _ hr1 (by omega)).mono ?_
      rintro e w9 ⟨vy, rfl, hoy, hb9⟩
      have hs9 := hb9.size
      replace hr0 := hr0.below hb9 (by omega)
      replace hr1 := hr1.below hb9 (by omega)
      replace hra := hra.below hb9 (by omega)
      replace hoa := hoa.below hb9 (by omega)
      replace hrra := hrra.below hb9 (by omega)
      replace hora := hora.below hb9 (by omega)
      replace hrb := hrb.below hb9 (by omega)
      replace hob := hob.below hb9 (by omega)
      replace hrrb := hrrb.below hb9 (by omega)
      replace horb := horb.below hb9 (by omega)
      replace hrz := hrz.below hb9 (by omega)
      replace hoz := hoz.below hb9 (by omega)
      obtain ⟨Ay, cy, rfl, hncy, hcmy, hry⟩ := hoy.rd
      go_wp2_with fail
      refine (eqInt64SS_same Arb Ay n1 crb cy w4.heap.size w5.heap.size w8.heap.size w9.heap.size l1 hn1 HROW1.out _ hrrb hry (by omega) (by omega)).mono ?_
      rintro e w10 ⟨rfl, hb10⟩
      have hs10 := hb10.size
      replace hr0 := hr0.below hb10 (by omega)
      replace hr1 := hr1.below hb10 (by omega)
      replace hra := hra.below hb10 (by omega)
      replace hoa := hoa.below hb10 (by omega)
      replace hrra := hrra.below hb10 (by omega)
      replace hora := hora.below hb10 (by omega)
      replace hrb := hrb.below hb10 (by omega)
      replace hob := hob.below hb10 (by omega)
      replace hrrb := hrrb.below hb10 (by omega)
      replace horb := horb.below hb10 (by omega)
      replace hrz := hrz.below hb10 (by omega)
      replace hoz := hoz.below hb10 (by omega)
      replace hry := hry.below hb10 (by omega)
      replace hoy := hoy.below hb10 (by omega)
      go_wp2_with fail
      go_ret
      exact ⟨rfl, ((((((((((Below.refl _ _).trans (hb1.mono (by omega))).trans (hb2.mono (by omega))).trans (hb3.mono (by omega))).trans (hb4.mono (by omega))).trans (hb5.mono (by omega))).trans (hb6.mono (by omega))).trans (hb7.mono (by omega))).trans (hb8.mono (by omega))).trans (hb9.mono (by omega))).trans (hb10.mono (by omega))⟩
    · clear hw0 hw1
      go_enter Try.func4, Try.ntmps4
      go_wp2_with fail
      refine (szBoolSS_ok A0 n0 c0 0 w.heap.size l0 _ hq (by omega) _ hr0).mono ?_
      rintro e w' ⟨rfl, rfl⟩
      go_wp2_with fail
      refine (szInt64SS_big A1 n1 c1 0 w.heap.size l1 _ (by omega) (by omega) (by omega) hm1 _ hr1).mono ?_
      rintro e w' ⟨rfl, rfl⟩
      go_wp2_with fail
      go_ret
      exact ⟨rfl, Below.refl _ _⟩
  · clear hw0 hw1 hr1
    go_enter Try.func4, Try.ntmps4
    go_wp2_with fail
    refine (szBoolSS_big A0 n0 c0 0 w.heap.size l0 _ (by omega) (by omega) (by omega) hm0 _ hr0).mono ?_
    rintro e w' ⟨rfl, rfl⟩
    go_wp2_with fail
    go_ret
    exact ⟨rfl, Below.refl _ _⟩

set_option maxRecDepth 100000 in
theorem lifted (os : Os) (started : os.Started) (H : Type) (enc : TypeId × Value → H) :
    ReturnsInHanded {} Try.checked os 4 .any (Rows.fnExactCheckRouteSpec.pre6 enc Try.prog Try.f4 Rows.fnExactCheckRouteRow.domain false) (Rows.fnExactCheckRouteSpec.post enc Try.prog Try.f4 false true false false) := by
  refine returnsInHanded_of_change (C := Try.checked) own started (by kernel_rfl) Try.func4
    (ChangeSpec.witness6 (enc := enc) (C := Try.checked) false ⟨#[], #[.slice none 0 0, .slice none 0 0], []⟩ 8 (by kernel_rfl) (by kernel_rfl) (by kernel_rfl) (by kernel_rfl)) ?_
  intro W base args ds gs before hval0 hW hcnd _
  have hval : ∀ (j : Nat) t v, Try.f4.params[j]? = some t → args[j]? = some v → Value.okWide Try.prog W .any base t v := hval0
  have hW' := hW
  obtain ⟨p, q, hA0, hV, rfl, hfz, hnd⟩ := hW
  have hA : DataW.TrodAll enc Try.prog W 0 (fun _ => true) true Try.f4.params.toList args.toList ds p := hA0
  rw [Try.params4] at hA hval
  obtain ⟨v0, vs0, d0, ds0, p0, q0, hargs, rfl, rfl, h0, r0⟩ := trodAll_cons hA
  obtain ⟨v1, vs1, d1, ds1, p1, q1, rfl, rfl, rfl, h1, r1⟩ := trodAll_cons r0
  obtain ⟨rfl, rfl, rfl⟩ := trodAll_nil r1
  obtain rfl : args = #[v0, v1] := by cases args; simp_all
  obtain ⟨rfl, rfl⟩ := trodVars_none hV
  obtain ⟨A0, n0, c0, l0, rfl, hnc0, hcm0, hr0, hw0⟩ := open_BoolSS (hval 0 22 v0 rfl rfl) h0
  obtain ⟨A1, n1, c1, l1, rfl, hnc1, hcm1, hr1, hw1⟩ := open_Int64SS (hval 1 32 v1 rfl rfl) h1
  clear hA0 hval0
  refine (walk W A0 n0 c0 l0 (Nat.le_trans hnc0 hcm0) hr0 hw0 A1 n1 c1 l1 (Nat.le_trans hnc1 hcm1) hr1 hw1).mono fun e W' ⟨he, hB⟩ => ?_
  subst he
  exact ⟨_, rfl, law_post laidOut Try.underlying4 rfl (by kernel_rfl) (by kernel_rfl) hW' rfl rfl rfl hB⟩

theorem proved : Rows.FnExactCheckRouteSaid :=
  OpenClaim.holds_of_wide 4 Try.f4 rfl rfl rfl rfl rfl rfl rfl ⟨rfl, rfl, rfl, rfl, rfl⟩ rfl rfl rfl rfl rfl (by kernel_rfl) Try.func4 (joined rfl rfl rfl (by kernel_rfl))
    (of_decide_eq_true (by kernel_rfl)) (by unfold Func.isWrapper; first | (rw [if_pos (by decide +kernel)]; kernel_rfl) | (rw [if_neg (by decide +kernel)]; exact ⟨rfl, rfl⟩))
    (fun os started H enc _ => lifted os started H enc)
#print axioms proved
end fnExactCheckRoute
end Go.Proofs.Ythpoapkdlcoikaa
