/-
  FnExactReadReadings: the law answers true at every input, and the input reads behind the call as it read before. No condition.
-/
import Derived.Test.YtclfhegjfjcjeaaDoorFrame
import Derived.Test.YtclfhegjfjcjeaaDoorFacts
import Derived.WalkKit
import Derived.WalkSpells
import Derived.WalkLawsBesides
import Derived.Deep.RegionWith
import Derived.Deep.DeepCutAuto
import Derived.Test.YtclfhegjfjcjeaaDoorOpnReading
import Derived.Test.YtclfhegjfjcjeaaDoorRw2
import Derived.Test.YtclfhegjfjcjeaaDoorRw5
import Derived.LaidMore
import Derived.Stop.Joined
import Derived.Stop.LaidErr
import Derived.SevenTiedAt
import Derived.Test.YtclfhegjfjcjeaaDoorCards
import Derived.Test.YtclfhegjfjcjeaaDoorTie
namespace Go.Proofs.YtclfhegjfjcjeaaDoor
open Go.ChangeShapes Go.WideShapes Go.ChangeAt Go.RowKit
namespace fnExactReadReadings
set_option linter.unusedVariables false
def RdK (t : List UInt8) (ok : Bool) (L : List (Int × Int)) : Prop := (ok = true ∧ TxtOk t L) ∨ (ok = false ∧ L = [] ∧ ∀ M, ¬ TxtOk t M)
theorem rdK_some (t : List UInt8) : ∃ ok L, RdK t ok L ∧ L.length ≤ 1048576 := by
  by_cases h : ∃ M, TxtOk t M
  · obtain ⟨M, h⟩ := h
    exact ⟨true, M, .inl ⟨rfl, h⟩, by have := validR_len h.1; omega⟩
  · exact ⟨false, [], .inr ⟨rfl, rfl, fun M hM => h ⟨M, hM⟩⟩, by simp⟩
theorem rdK_at {w w' : World} {e : Ending} {t : List UInt8} {ok : Bool} {L : List (Int × Int)} (hk : RdK t ok L) (h : RdR w w' e t) : ∃ v, e = .returned (.tuple #[v, .bool ok]) ∧ Own w' w.heap.size w'.heap.size 33 2 v L.length (rReading L) ∧ Below w.heap.size w w' := by
  obtain ⟨v, ok', L', rfl, ho, hb, hh⟩ := h
  obtain ⟨rfl, rfl⟩ := rd_same hk hh.out
  exact ⟨v, rfl, ho, hb⟩
theorem specRead_at (t : List UInt8) (ok : Bool) (L : List (Int × Int)) (hk : Hid (RdK t ok L)) (hn : t.length ≤ 1048576) (w : World) :
    Calls Tryd.prog 4 #[.string (bstr t)] w fun e w' => ∃ v, e = .returned (.tuple #[v, .bool ok]) ∧ Own w' w.heap.size w'.heap.size 33 2 v L.length (rReading L) ∧ Below w.heap.size w w' :=
  (specRead_any t _ rfl hn w).mono fun e w' h => rdK_at hk.out h
theorem implRead_at (t : List UInt8) (ok : Bool) (L : List (Int × Int)) (hk : Hid (RdK t ok L)) (hn : t.length ≤ 1048576) (w : World) (ht : Tb w) (he : Er w) :
    Calls Tryd.prog 5 #[.string (bstr t)] w fun e w' => ∃ v, e = .returned (.tuple #[v, .bool ok]) ∧ Own w' w.heap.size w'.heap.size 33 2 v L.length (rReading L) ∧ Below w.heap.size w w' :=
  (implRead_any t hn w ht he).mono fun e w' h => rdK_at hk.out h
set_option linter.unusedSimpArgs false
set_option maxRecDepth 100000 in
set_option maxHeartbeats 4000000 in
theorem walk (w : World) (x0 : ByteArray) (b0 : x0.size ≤ maxLen) (ht : Tb w) (he : Er w) :
    Calls Tryd.prog 3 #[.string x0] w fun e w' => e = .returned (.bool true) ∧ Below w.heap.size w w' := by
  by_cases hn : x0.size ≤ 1048576
  · skip
    obtain ⟨t, hxt⟩ : ∃ t, x0 = bstr t := ⟨x0.data.toList, (bstr_all x0).symm⟩
    subst hxt
    have hn2 : t.length ≤ 1048576 := by rw [bstr_size] at hn; exact hn
    obtain ⟨ok, L, hk, hL⟩ := rdK_some t
    have HK := hide hk
    have HTB := hide ht
    have HER := hide he
    clear hk ht he
    have z1 : ¬ 1048576 < (bstr t).size := by omega
    have z2 : ¬ (1048576 : Int) < ((bstr t).size : Int) := by omega
    go_enter Tryd.func3, Tryd.ntmps3
    go_wp2_with fail
    refine (specRead_at t ok L HK hn2 _).mono ?_
    rintro e w1 ⟨vs, rfl, hos, hb1⟩
    have hs1 := hb1.size
    obtain ⟨As, cs, rfl, hncs, hcms, hrs⟩ := hos.rd
    go_wp2_with fail
    refine (implRead_at t ok L HK hn2 _ (HTB.out.below ((Below.refl w.heap.size w).trans (hb1.mono (by omega))) (Nat.le_refl _)) (HER.out.below ((Below.refl w.heap.size w).trans (hb1.mono (by omega))) (Nat.le_refl _))).mono ?_
    rintro e w2 ⟨vg, rfl, hog, hb2⟩
    have hs2 := hb2.size
    replace hrs := hrs.below hb2 (by omega)
    replace hos := hos.below hb2 (by omega)
    obtain ⟨Ag, cg, rfl, hncg, hcmg, hrg⟩ := hog.rd
    go_wp2_with fail
    refine (eqReadingS_same Ag As _ cg cs w1.heap.size w2.heap.size w.heap.size w1.heap.size L (hL) _ rfl hrg hrs (by omega) (by omega)).mono ?_
    rintro e w3 ⟨rfl, hb3⟩
    have hs3 := hb3.size
    replace hrs := hrs.below hb3 (by omega)
    replace hos := hos.below hb3 (by omega)
    replace hrg := hrg.below hb3 (by omega)
    replace hog := hog.below hb3 (by omega)
    go_wp2_with fail
    refine (markReadingS_any _ _ w1.heap.size w2.heap.size _ 1 (by omega) (by omega) (hL) _ hog (by omega)).mono ?_
    rintro e w4 ⟨rfl, hon, ht4⟩
    have hs4 := ht4.size
    replace hrs := hrs.tch ht4 (by omega) (by omega)
    replace hos := hos.tch ht4 (by omega)
    obtain ⟨_, _, hen, _, _, hrn⟩ := hon.rd
    injection hen with e1 e2 e3; subst e1; subst e3; clear e2
    go_wp2_with fail
    refine (heldReadingS_any Ag _ cg w1.heap.size w2.heap.size _ (by omega) (by omega) (hL) _ hrn).mono ?_
    rintro e w' ⟨rfl, rfl⟩
    go_wp2_with fail
    refine (implRead_at t ok L HK hn2 _ (HTB.out.below (((((Below.refl w.heap.size w).trans (hb1.mono (by omega))).trans (hb2.mono (by omega))).trans (hb3.mono (by omega))).trans ((ht4.below (by omega)).mono (by omega))) (Nat.le_refl _)) (HER.out.below (((((Below.refl w.heap.size w).trans (hb1.mono (by omega))).trans (hb2.mono (by omega))).trans (hb3.mono (by omega))).trans ((ht4.below (by omega)).mono (by omega))) (Nat.le_refl _))).mono ?_
    rintro e w5 ⟨vh, rfl, hoh, hb5⟩
    have hs5 := hb5.size
    replace hrs := hrs.below hb5 (by omega)
    replace hos := hos.below hb5 (by omega)
    replace hrn := hrn.below hb5 (by omega)
    replace hon := hon.below hb5 (by omega)
    obtain ⟨Ah, ch, rfl, hnch, hcmh, hrh⟩ := hoh.rd
    go_wp2_with fail
    refine (eqReadingS_same Ah As _ ch cs w4.heap.size w5.heap.size w.heap.size w1.heap.size L (hL) _ rfl hrh hrs (by omega) (by omega)).mono ?_
    rintro e w6 ⟨rfl, hb6⟩
    have hs6 := hb6.size
    replace hrs := hrs.below hb6 (by omega)
    replace hos := hos.below hb6 (by omega)
    replace hrn := hrn.below hb6 (by omega)
    replace hon := hon.below hb6 (by omega)
    replace hrh := hrh.below hb6 (by omega)
    replace hoh := hoh.below hb6 (by omega)
    go_wp2_with fail
    refine (heldReadingS_any Ag _ cg w1.heap.size w2.heap.size _ (by omega) (by omega) (hL) _ hrn).mono ?_
    rintro e w' ⟨rfl, rfl⟩
    go_wp2_with fail
    go_ret
    exact ⟨rfl, ((((((Below.refl _ _).trans (hb1.mono (by omega))).trans (hb2.mono (by omega))).trans (hb3.mono (by omega))).trans ((ht4.below (by omega)).mono (by omega))).trans (hb5.mono (by omega))).trans (hb6.mono (by omega))⟩
  · have z1 : 1048576 < x0.size := by omega
    have z2 : (1048576 : Int) < (x0.size : Int) := by omega
    clear ht he
    go_enter Tryd.func3, Tryd.ntmps3
    go_wp2_with fail
    go_ret
    exact ⟨rfl, Below.refl _ _⟩

theorem door_met (os : Os) (args : Array Value) : laidMetH Tryd.prog Rows.fnExactReadReadingsRow.laid ((World.doorLaid Tryd.prog 4000 os).forCall (fun _ _ => 0) ⟨#[], args, []⟩).memory := by
  rw [MakeChecks.laidMetH_plain _ _ _ (by kernel_rfl)]
  exact laidMet_of_run' 8 (by kernel_rfl) (by kernel_rfl)
theorem tb_of {W : World} (h : laidMetH Tryd.prog Rows.fnExactReadReadingsRow.laid W) : Tb W := by
  rw [MakeChecks.laidMetH_plain _ _ _ (by kernel_rfl)] at h
  exact Lib.tabIs_of_head (g := 3) (t := 101) (e := 80) (n := 20) (by kernel_rfl) (by kernel_rfl) (by kernel_rfl) (by kernel_rfl) (by kernel_rfl) (by kernel_rfl) (show laidMet Tryd.prog (_ :: _) W from h.tail.tail)
theorem err_star : "*" ++ "errors.errorString" = "*errors.errorString" := by decide
theorem err_row (u : TypeId) (h : Tryd.prog.typeName? 3 u = some "*errors.errorString") : u = 105 := typeName_ptr_named (nm := "errors.errorString") (by rw [err_star]; kernel_rfl) (by kernel_rfl) (by decide) u (by rw [err_star]; exact h)
theorem er_of {W : World} (h : laidMetH Tryd.prog Rows.fnExactReadReadingsRow.laid W) : Er W := by
  rw [MakeChecks.laidMetH_plain _ _ _ (by kernel_rfl)] at h
  refine ⟨?_, ?_⟩
  · obtain ⟨a, s, hv, _⟩ := laid_sentinel (n := "strconv.ErrSyntax") (nm := "*errors.errorString") (g := 1) (show laidMet Tryd.prog (_ :: _) W from h.tail.tail.tail.tail) (by kernel_rfl) (by kernel_rfl) Tryd.underlying58 err_row Tryd.underlying105 Tryd.underlying107 rfl rfl Tryd.underlying9 (by kernel_rfl) (by kernel_rfl)
    exact ⟨_, _, hv⟩
  · obtain ⟨a, s, hv, _⟩ := laid_sentinel (n := "strconv.ErrRange") (nm := "*errors.errorString") (g := 2) (show laidMet Tryd.prog (_ :: _) W from h.tail.tail.tail) (by kernel_rfl) (by kernel_rfl) Tryd.underlying58 err_row Tryd.underlying105 Tryd.underlying107 rfl rfl Tryd.underlying9 (by kernel_rfl) (by kernel_rfl)
    exact ⟨_, _, hv⟩
set_option maxRecDepth 100000 in
theorem lifted (os : Os) (started : os.Started) (H : Type) (enc : TypeId × Value → H) :
    ReturnsInHanded {} Tryd.checked os 3 .any (fun w args => (Rows.fnExactReadReadingsSpec.pre enc Tryd.prog Tryd.f3 Rows.fnExactReadReadingsRow.domain false w args ∧ laidMetH Tryd.prog Rows.fnExactReadReadingsRow.laid w) ∧ sizedMet enc Tryd.prog Tryd.f3 (OpenSpec.ofChange Rows.fnExactReadReadingsSpec) false w args)
      (Rows.fnExactReadReadingsSpec.post enc Tryd.prog Tryd.f3 false true false false) := by
  refine returnsInHanded_of_change_and (C := Tryd.checked) (X := fun w _ => laidMetH Tryd.prog Rows.fnExactReadReadingsRow.laid w) (fun _ _ _ hh h => h.of_heap hh) own started (by kernel_rfl) Tryd.func3
    (ChangeSpec.witness_shaped (enc := enc) (C := Tryd.checked) (os := os) (X := fun w _ => laidMetH Tryd.prog Rows.fnExactReadReadingsRow.laid w) false (World.doorLaid Tryd.prog 4000 os) #[.string ByteArray.empty] 8 rfl (World.shaped_of_RefB (by kernel_rfl) (by kernel_rfl)) (by kernel_rfl) (by kernel_rfl) (by kernel_rfl) (door_met os _)) ?_
  intro W base args ds gs before hval0 hW _ _ hL _
  have hval : ∀ (j : Nat) t v, Tryd.f3.params[j]? = some t → args[j]? = some v → Value.okWide Tryd.prog W .any base t v := hval0
  have hW' := hW
  obtain ⟨p, q, hA0, hV, rfl, hfz, hnd⟩ := hW
  have hA : DataW.TrodAll enc Tryd.prog W 0 (fun _ => true) true Tryd.f3.params.toList args.toList ds p := hA0
  rw [Tryd.params3] at hA hval
  obtain ⟨v0, vs0, d0, ds0, p0, q0, hargs, rfl, rfl, h0, r0⟩ := trodAll_cons hA
  obtain ⟨rfl, rfl, rfl⟩ := trodAll_nil r0
  obtain rfl : args = #[v0] := by cases args; simp_all
  obtain ⟨rfl, rfl⟩ := trodVars_none hV
  obtain ⟨x0, rfl, rfl, rfl, b0⟩ := Go.ChangeMaps.open_string Tryd.underlying9 (hval 0 9 v0 rfl rfl) h0
  clear hA0 hval0
  refine (walk W x0 b0 (tb_of hL) (er_of hL)).mono fun e W' ⟨he, hB⟩ => ?_
  subst he
  exact ⟨_, rfl, law_post laidOut Tryd.underlying4 rfl (by kernel_rfl) (by kernel_rfl) hW' rfl rfl rfl hB⟩

theorem proved : Rows.FnExactReadReadingsSaid :=
  OpenClaim.holds_of_wide 3 Tryd.f3 rfl rfl rfl rfl rfl rfl rfl ⟨rfl, rfl, rfl, rfl, rfl⟩ rfl rfl rfl rfl rfl (by kernel_rfl) Tryd.func3 (joined rfl rfl rfl (by kernel_rfl))
    (of_decide_eq_true (by kernel_rfl)) (by unfold Func.isWrapper; first | (rw [if_pos (by decide +kernel)]; kernel_rfl) | (rw [if_neg (by decide +kernel)]; exact ⟨rfl, rfl⟩))
    (fun os started H enc _ => lifted os started H enc)
theorem carded : Rows.FnExactReadReadingsCardSaid :=
  Claim7.holds_tied_plain_at .later [] [.data, .data, .data, .sentinel, .sentinel] true (true, "444002b573f0c095d740349f6fcc1978cb3553d6a1b4b31132e5541210ace153") true
    proved (fun _ h => by cases h) (by kernel_rfl) (fun _ h => by cases h) fnExactReadReadings_row_tie rfl ⟨rfl, rfl⟩ (by kernel_rfl) rfl
    (fun f fn hf hfn => by
      obtain rfl : f = 3 := Option.some.inj ((show Tryd.prog.funcNamed "loop.example/g00932/laws.FnExactReadReadings" = some 3 by kernel_rfl).symm.trans hf) |>.symm
      obtain rfl : fn = Tryd.f3 := (Option.some.inj (Tryd.func3.symm.trans hfn)).symm
      exact ⟨by kernel_rfl, fun j t ht => by
        rw [Tryd.params3] at ht
        have hm : t ∈ [9] := by simpa using Array.mem_of_getElem? ht
        have hall : ([9].all fun u => !Tryd.prog.wantsStandIn u) = true := by kernel_rfl
        exact (show Tryd.prog.wantsStandIn t = false by simpa using List.all_eq_true.1 hall t hm)⟩)
    (by kernel_rfl)
#print axioms carded
end fnExactReadReadings
end Go.Proofs.YtclfhegjfjcjeaaDoor
