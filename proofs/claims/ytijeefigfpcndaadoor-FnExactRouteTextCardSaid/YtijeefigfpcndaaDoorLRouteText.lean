/-
  FnExactRouteText: the law answers true at every input, and the input reads behind the call as it read before. No condition.
-/
import Derived.Test.YtijeefigfpcndaaDoorFrame
import Derived.Test.YtijeefigfpcndaaDoorFacts
import Derived.WalkKit
import Derived.WalkSpells
import Derived.WalkLawsBesides
import Derived.Deep.RegionWith
import Derived.Deep.DeepCutAuto
import Derived.Test.YtijeefigfpcndaaDoorRo
import Derived.Test.YtijeefigfpcndaaDoorOpnSInt64
import Derived.LaidMore
import Derived.Stop.Joined
import Derived.Stop.LaidErr
import Derived.SevenTiedAt
import Derived.Test.YtijeefigfpcndaaDoorCards
import Derived.Test.YtijeefigfpcndaaDoorTie
namespace Go.Proofs.YtijeefigfpcndaaDoor
open Go.ChangeShapes Go.WideShapes Go.ChangeAt Go.RowKit
namespace fnExactRouteText
set_option linter.unusedVariables false
set_option maxRecDepth 100000 in
set_option maxHeartbeats 4000000 in
theorem walk (w : World) (A0 : Option Addr) (n0 c0 : Nat) (l0 : List (List Int)) (hm0 : n0 ≤ maxLen) (hr0 : RdSS w 0 w.heap.size A0 n0 (rrInt64 l0)) (hw0 : ∀ r ∈ l0, ∀ p ∈ r, (Lit.int .i64 p).wf = true) (ht : Tb w) :
    Calls Tryd.prog 4 #[.slice A0 n0 c0] w fun e w' => e = .returned (.bool true) ∧ Below w.heap.size w w' := by
  by_cases hq : (n0 : Int) + (tot (rrInt64 l0) n0 : Nat) ≤ 1048576
  · skip
    have hn : n0 ≤ 1048576 := by omega
    have hl0 : l0.length = n0 := by have := hr0.length; rwa [rrInt64_len] at this
    have hrow : ∀ r ∈ l0, r.length ≤ 1048576 := fun r hr => by obtain ⟨i, hi, rfl⟩ := List.mem_iff_getElem.1 hr; have h1 := tot_succ (rrInt64 l0) i (by rw [rrInt64_len]; exact hi); have h2 := tot_mono (rrInt64 l0) (show i + 1 ≤ n0 by omega); rw [rrInt64_at, rInt64_len1, show l0.getD i [] = l0[i] by simp [List.getD, hi]] at h1; omega
    have hI : allI l0 := fun r hr p hp => bounds_i64 (hw0 r hr p hp)
    have HI := hide hI
    have HROW := hide hrow
    clear hw0 hm0 hrow hl0 hI
    go_enter Tryd.func4, Tryd.ntmps4
    go_wp2_with fail
    refine (szInt64SS_ok A0 n0 c0 0 w.heap.size l0 _ hq (by omega) _ hr0).mono ?_
    rintro e w' ⟨rfl, rfl⟩
    go_wp2_with fail
    refine (toInt64SS_any A0 n0 c0 0 w.heap.size l0 hn HROW.out _ hr0 (by omega)).mono ?_
    rintro e w1 ⟨va, rfl, hoa, hb1⟩
    have hs1 := hb1.size
    replace hr0 := hr0.below hb1 (by omega)
    replace ht := ht.below hb1 (by omega)
    obtain ⟨Aa, ca, rfl, hnca, hcma, hra⟩ := hoa.rd
    go_wp2_with fail
    refine (specRouteText_any Aa n0 ca w.heap.size w1.heap.size l0 HI.out (by omega) _ hra (by omega)).mono ?_
    rintro e w2 ⟨rfl, hb2⟩
    have hs2 := hb2.size
    replace hr0 := hr0.below hb2 (by omega)
    replace ht := ht.below hb2 (by omega)
    replace hra := hra.below hb2 (by omega)
    replace hoa := hoa.below hb2 (by omega)
    go_wp2_with fail
    refine (toInt64SS_any A0 n0 c0 0 w.heap.size l0 hn HROW.out _ hr0 (by omega)).mono ?_
    rintro e w3 ⟨vb, rfl, hob, hb3⟩
    have hs3 := hb3.size
    replace hr0 := hr0.below hb3 (by omega)
    replace ht := ht.below hb3 (by omega)
    replace hra := hra.below hb3 (by omega)
    replace hoa := hoa.below hb3 (by omega)
    obtain ⟨Ab, cb, rfl, hncb, hcmb, hrb⟩ := hob.rd
    go_wp2_with fail
    refine (implRouteText_any Ab n0 cb w2.heap.size w3.heap.size l0 HI.out (by omega) _ hrb (by omega) ht).mono ?_
    rintro e w4 ⟨rfl, hb4⟩
    have hs4 := hb4.size
    replace hr0 := hr0.below hb4 (by omega)
    replace ht := ht.below hb4 (by omega)
    replace hra := hra.below hb4 (by omega)
    replace hoa := hoa.below hb4 (by omega)
    replace hrb := hrb.below hb4 (by omega)
    replace hob := hob.below hb4 (by omega)
    generalize rouS l0 = st at *
    go_wp2_with fail
    refine (toInt64SS_any A0 n0 c0 0 w.heap.size l0 hn HROW.out _ hr0 (by omega)).mono ?_
    rintro e w5 ⟨vz, rfl, hoz, hb5⟩
    have hs5 := hb5.size
    replace hr0 := hr0.below hb5 (by omega)
    replace ht := ht.below hb5 (by omega)
    replace hra := hra.below hb5 (by omega)
    replace hoa := hoa.below hb5 (by omega)
    replace hrb := hrb.below hb5 (by omega)
    replace hob := hob.below hb5 (by omega)
    obtain ⟨Az, cz, rfl, hncz, hcmz, hrz⟩ := hoz.rd
    go_wp2_with fail
    refine (eqInt64SS_same Ab Az n0 cb cz w2.heap.size w3.heap.size w4.heap.size w5.heap.size l0 hn HROW.out _ hrb hrz (by omega) (by omega)).mono ?_
    rintro e w6 ⟨rfl, hb6⟩
    have hs6 := hb6.size
    replace hr0 := hr0.below hb6 (by omega)
    replace ht := ht.below hb6 (by omega)
    replace hra := hra.below hb6 (by omega)
    replace hoa := hoa.below hb6 (by omega)
    replace hrb := hrb.below hb6 (by omega)
    replace hob := hob.below hb6 (by omega)
    replace hrz := hrz.below hb6 (by omega)
    replace hoz := hoz.below hb6 (by omega)
    go_wp2_with fail
    go_ret
    exact ⟨rfl, ((((((Below.refl _ _).trans (hb1.mono (by omega))).trans (hb2.mono (by omega))).trans (hb3.mono (by omega))).trans (hb4.mono (by omega))).trans (hb5.mono (by omega))).trans (hb6.mono (by omega))⟩
  · clear hw0
    go_enter Tryd.func4, Tryd.ntmps4
    go_wp2_with fail
    refine (szInt64SS_big A0 n0 c0 0 w.heap.size l0 _ (by omega) (by omega) (by omega) hm0 _ hr0).mono ?_
    rintro e w' ⟨rfl, rfl⟩
    go_wp2_with fail
    go_ret
    exact ⟨rfl, Below.refl _ _⟩

theorem door_met (os : Os) (args : Array Value) : laidMetH Tryd.prog Rows.fnExactRouteTextRow.laid ((World.doorLaid Tryd.prog 4000 os).forCall (fun _ _ => 0) ⟨#[], args, []⟩).memory := by
  rw [MakeChecks.laidMetH_plain _ _ _ (by kernel_rfl)]
  exact laidMet_of_run' 8 (by kernel_rfl) (by kernel_rfl)
theorem tb_of {W : World} (h : laidMetH Tryd.prog Rows.fnExactRouteTextRow.laid W) : Tb W := by
  rw [MakeChecks.laidMetH_plain _ _ _ (by kernel_rfl)] at h
  exact Lib.tabIs_of_head (g := 1) (t := 110) (e := 97) (n := 20) (by kernel_rfl) (by kernel_rfl) (by kernel_rfl) (by kernel_rfl) (by kernel_rfl) (by kernel_rfl) (show laidMet Tryd.prog (_ :: _) W from h.tail.tail)
set_option maxRecDepth 100000 in
theorem lifted (os : Os) (started : os.Started) (H : Type) (enc : TypeId × Value → H) :
    ReturnsInHanded {} Tryd.checked os 4 .any (fun w args => (Rows.fnExactRouteTextSpec.pre enc Tryd.prog Tryd.f4 Rows.fnExactRouteTextRow.domain false w args ∧ laidMetH Tryd.prog Rows.fnExactRouteTextRow.laid w) ∧ sizedMet enc Tryd.prog Tryd.f4 (OpenSpec.ofChange Rows.fnExactRouteTextSpec) false w args)
      (Rows.fnExactRouteTextSpec.post enc Tryd.prog Tryd.f4 false true false false) := by
  refine returnsInHanded_of_change_and (C := Tryd.checked) (X := fun w _ => laidMetH Tryd.prog Rows.fnExactRouteTextRow.laid w) (fun _ _ _ hh h => h.of_heap hh) own started (by kernel_rfl) Tryd.func4
    (ChangeSpec.witness_shaped (enc := enc) (C := Tryd.checked) (os := os) (X := fun w _ => laidMetH Tryd.prog Rows.fnExactRouteTextRow.laid w) false (World.doorLaid Tryd.prog 4000 os) #[.slice none 0 0] 8 rfl (World.shaped_of_RefB (by kernel_rfl) (by kernel_rfl)) (by kernel_rfl) (by kernel_rfl) (by kernel_rfl) (door_met os _)) ?_
  intro W base args ds gs before hval0 hW _ _ hL _
  have hval : ∀ (j : Nat) t v, Tryd.f4.params[j]? = some t → args[j]? = some v → Value.okWide Tryd.prog W .any base t v := hval0
  have hW' := hW
  obtain ⟨p, q, hA0, hV, rfl, hfz, hnd⟩ := hW
  have hA : DataW.TrodAll enc Tryd.prog W 0 (fun _ => true) true Tryd.f4.params.toList args.toList ds p := hA0
  rw [Tryd.params4] at hA hval
  obtain ⟨v0, vs0, d0, ds0, p0, q0, hargs, rfl, rfl, h0, r0⟩ := trodAll_cons hA
  obtain ⟨rfl, rfl, rfl⟩ := trodAll_nil r0
  obtain rfl : args = #[v0] := by cases args; simp_all
  obtain ⟨rfl, rfl⟩ := trodVars_none hV
  obtain ⟨A0, n0, c0, l0, rfl, hnc0, hcm0, hr0, hw0⟩ := open_Int64SS (hval 0 28 v0 rfl rfl) h0
  clear hA0 hval0
  refine (walk W A0 n0 c0 l0 (Nat.le_trans hnc0 hcm0) hr0 hw0 (tb_of hL)).mono fun e W' ⟨he, hB⟩ => ?_
  subst he
  exact ⟨_, rfl, law_post laidOut Tryd.underlying4 rfl (by kernel_rfl) (by kernel_rfl) hW' rfl rfl rfl hB⟩

theorem proved : Rows.FnExactRouteTextSaid :=
  OpenClaim.holds_of_wide 4 Tryd.f4 rfl rfl rfl rfl rfl rfl rfl ⟨rfl, rfl, rfl, rfl, rfl⟩ rfl rfl rfl rfl rfl (by kernel_rfl) Tryd.func4 (joined rfl rfl rfl (by kernel_rfl))
    (of_decide_eq_true (by kernel_rfl)) (by unfold Func.isWrapper; first | (rw [if_pos (by decide +kernel)]; kernel_rfl) | (rw [if_neg (by decide +kernel)]; exact ⟨rfl, rfl⟩))
    (fun os started H enc _ => lifted os started H enc)
theorem carded : Rows.FnExactRouteTextCardSaid :=
  Claim7.holds_tied_plain_at .later [] [.data, .data, .data] true (true, "46da9e778094b2d0797e3a68db34fa2b479d2ce465d97567531e9c997d275276") true
    proved (fun _ h => by cases h) (by kernel_rfl) (fun _ h => by cases h) fnExactRouteText_row_tie rfl ⟨rfl, rfl⟩ (by kernel_rfl) rfl
    (fun f fn hf hfn => by
      obtain rfl : f = 4 := Option.some.inj ((show Tryd.prog.funcNamed "loop.example/g00932/laws.FnExactRouteText" = some 4 by kernel_rfl).symm.trans hf) |>.symm
      obtain rfl : fn = Tryd.f4 := (Option.some.inj (Tryd.func4.symm.trans hfn)).symm
      exact ⟨by kernel_rfl, fun j t ht => by
        rw [Tryd.params4] at ht
        have hm : t ∈ [28] := by simpa using Array.mem_of_getElem? ht
        have hall : ([28].all fun u => !Tryd.prog.wantsStandIn u) = true := by kernel_rfl
        exact (show Tryd.prog.wantsStandIn t = false by simpa using List.all_eq_true.1 hall t hm)⟩)
    (by kernel_rfl)
#print axioms carded
end fnExactRouteText
end Go.Proofs.YtijeefigfpcndaaDoor
