/-
  FnExactControlText: the law answers true at every input, and the input reads behind the call as it read before. No condition.
-/
import Derived.Test.YtijeefigfpcndaaDoorFrame
import Derived.Test.YtijeefigfpcndaaDoorFacts
import Derived.WalkKit
import Derived.WalkSpells
import Derived.WalkLawsBesides
import Derived.Deep.RegionWith
import Derived.Deep.DeepCutAuto
import Derived.Test.YtijeefigfpcndaaDoorCt
import Derived.Test.YtijeefigfpcndaaDoorStructs
import Derived.LaidMore
import Derived.Stop.Joined
import Derived.Stop.LaidErr
import Derived.SevenTiedAt
import Derived.Test.YtijeefigfpcndaaDoorCards
import Derived.Test.YtijeefigfpcndaaDoorTie
namespace Go.Proofs.YtijeefigfpcndaaDoor
open Go.ChangeShapes Go.WideShapes Go.ChangeAt Go.RowKit
namespace fnExactControlText
set_option linter.unusedVariables false
set_option maxRecDepth 100000 in
set_option maxHeartbeats 4000000 in
theorem walk (w : World) (x0_0 x0_1 x0_2 x0_3 x0_4 : Int) (b0_0 : (Lit.int .i64 x0_0).wf = true) (b0_1 : (Lit.int .i64 x0_1).wf = true) (b0_2 : (Lit.int .i64 x0_2).wf = true) (b0_3 : (Lit.int .i64 x0_3).wf = true) (b0_4 : (Lit.int .i64 x0_4).wf = true) (ht : Tb w) :
    Calls Tryd.prog 3 #[.agg #[.int .i64 x0_0, .int .i64 x0_1, .int .i64 x0_2, .int .i64 x0_3, .int .i64 x0_4]] w fun e w' => e = .returned (.bool true) ∧ Below w.heap.size w w' := by
  go_enter Tryd.func3, Tryd.ntmps3
  go_wp2_with fail
  obtain ⟨W0, hW0⟩ : ∃ W0 : World, W0 = (w.alloc (.cells #[.int .i64 x0_0, .int .i64 x0_1, .int .i64 x0_2, .int .i64 x0_3, .int .i64 x0_4] 23)) := ⟨_, rfl⟩
  rw [← hW0]
  have hk : Box W0 (w.heap.size) [.int .i64 x0_0, .int .i64 x0_1, .int .i64 x0_2, .int .i64 x0_3, .int .i64 x0_4] := by rw [hW0]; exact box_at _ _ _ _ (by simp)
  have hB : Below w.heap.size w W0 := by rw [hW0]; exact (by repeat (first | exact Below.refl _ _ | refine Below.drew ?_ | refine Below.alloc ?_ (by first | (simp; done) | (simp; omega)) _))
  have hs0 : w.heap.size + 1 ≤ W0.heap.size := by rw [hW0]; first | (simp; done) | (simp; omega)
  clear hW0
  replace ht := ht.below hB (by omega)
  have nhk : w.heap.size < W0.heap.size := by omega
  have lhk_0 := hk 0 _ rfl
  have lhk_1 := hk 1 _ rfl
  have lhk_2 := hk 2 _ rfl
  have lhk_3 := hk 3 _ rfl
  have lhk_4 := hk 4 _ rfl
  go_wp2_with fail
  clear nhk lhk_0 lhk_1 lhk_2 lhk_3 lhk_4
  refine (toControl_any x0_0 x0_1 x0_2 x0_3 x0_4 _).mono ?_
  rintro e w1 ⟨rfl, hb⟩
  have hbb : Below W0.heap.size W0 w1 := Below.trans (by repeat (first | exact Below.refl _ _ | refine Below.drew ?_ | refine Below.alloc ?_ (by first | (simp; done) | (simp; omega)) _)) (Below.mono hb (by simp))
  clear hb
  have hs1 := hbb.size
  replace ht := ht.below hbb (by omega)
  replace hk := hk.below hbb (by omega)
  replace hB := hB.trans (hbb.mono (by omega))
  clear hbb
  go_wp2_with fail
  refine (specControlText_any x0_0 x0_1 x0_2 x0_3 x0_4 _).mono ?_
  rintro e w2 ⟨rfl, hb⟩
  have hbb : Below w1.heap.size w1 w2 := Below.trans (by repeat (first | exact Below.refl _ _ | refine Below.drew ?_ | refine Below.alloc ?_ (by first | (simp; done) | (simp; omega)) _)) (Below.mono hb (by simp))
  clear hb
  have hs2 := hbb.size
  replace ht := ht.below hbb (by omega)
  replace hk := hk.below hbb (by omega)
  replace hB := hB.trans (hbb.mono (by omega))
  clear hbb
  have nhk : w.heap.size < w2.heap.size := by omega
  have lhk_0 := hk 0 _ rfl
  have lhk_1 := hk 1 _ rfl
  have lhk_2 := hk 2 _ rfl
  have lhk_3 := hk 3 _ rfl
  have lhk_4 := hk 4 _ rfl
  go_wp2_with fail
  clear nhk lhk_0 lhk_1 lhk_2 lhk_3 lhk_4
  refine (toControl_any x0_0 x0_1 x0_2 x0_3 x0_4 _).mono ?_
  rintro e w3 ⟨rfl, hb⟩
  have hbb : Below w2.heap.size w2 w3 := Below.trans (by repeat (first | exact Below.refl _ _ | refine Below.drew ?_ | refine Below.alloc ?_ (by first | (simp; done) | (simp; omega)) _)) (Below.mono hb (by simp))
  clear hb
  have hs3 := hbb.size
  replace ht := ht.below hbb (by omega)
  replace hk := hk.below hbb (by omega)
  replace hB := hB.trans (hbb.mono (by omega))
  clear hbb
  go_wp2_with fail
  refine (implControlText_any x0_0 x0_1 x0_2 x0_3 x0_4 _ ht).mono ?_
  rintro e w4 ⟨rfl, hb⟩
  have hbb : Below w3.heap.size w3 w4 := Below.trans (by repeat (first | exact Below.refl _ _ | refine Below.drew ?_ | refine Below.alloc ?_ (by first | (simp; done) | (simp; omega)) _)) (Below.mono hb (by simp))
  clear hb
  have hs4 := hbb.size
  replace ht := ht.below hbb (by omega)
  replace hk := hk.below hbb (by omega)
  replace hB := hB.trans (hbb.mono (by omega))
  clear hbb
  generalize ctlT x0_0 x0_1 x0_2 x0_3 x0_4 = st at *
  go_wp2_with fail
  go_ret
  exact ⟨rfl, hB⟩

theorem door_met (os : Os) (args : Array Value) : laidMetH Tryd.prog Rows.fnExactControlTextRow.laid ((World.doorLaid Tryd.prog 4000 os).forCall (fun _ _ => 0) ⟨#[], args, []⟩).memory := by
  rw [MakeChecks.laidMetH_plain _ _ _ (by kernel_rfl)]
  exact laidMet_of_run' 8 (by kernel_rfl) (by kernel_rfl)
theorem tb_of {W : World} (h : laidMetH Tryd.prog Rows.fnExactControlTextRow.laid W) : Tb W := by
  rw [MakeChecks.laidMetH_plain _ _ _ (by kernel_rfl)] at h
  exact Lib.tabIs_of_head (g := 1) (t := 110) (e := 97) (n := 20) (by kernel_rfl) (by kernel_rfl) (by kernel_rfl) (by kernel_rfl) (by kernel_rfl) (by kernel_rfl) (show laidMet Tryd.prog (_ :: _) W from h.tail.tail)
set_option maxRecDepth 100000 in
theorem lifted (os : Os) (started : os.Started) (H : Type) (enc : TypeId × Value → H) :
    ReturnsInHanded {} Tryd.checked os 3 .any (fun w args => (Rows.fnExactControlTextSpec.pre enc Tryd.prog Tryd.f3 Rows.fnExactControlTextRow.domain false w args ∧ laidMetH Tryd.prog Rows.fnExactControlTextRow.laid w) ∧ sizedMet enc Tryd.prog Tryd.f3 (OpenSpec.ofChange Rows.fnExactControlTextSpec) false w args)
      (Rows.fnExactControlTextSpec.post enc Tryd.prog Tryd.f3 false true false false) := by
  refine returnsInHanded_of_change_and (C := Tryd.checked) (X := fun w _ => laidMetH Tryd.prog Rows.fnExactControlTextRow.laid w) (fun _ _ _ hh h => h.of_heap hh) own started (by kernel_rfl) Tryd.func3
    (ChangeSpec.witness_shaped (enc := enc) (C := Tryd.checked) (os := os) (X := fun w _ => laidMetH Tryd.prog Rows.fnExactControlTextRow.laid w) false (World.doorLaid Tryd.prog 4000 os) #[.agg #[.int .i64 0, .int .i64 0, .int .i64 0, .int .i64 0, .int .i64 0]] 8 rfl (World.shaped_of_RefB (by kernel_rfl) (by kernel_rfl)) (by kernel_rfl) (by kernel_rfl) (by kernel_rfl) (door_met os _)) ?_
  intro W base args ds gs before hval0 hW _ _ hL _
  have hval : ∀ (j : Nat) t v, Tryd.f3.params[j]? = some t → args[j]? = some v → Value.okWide Tryd.prog W .any base t v := hval0
  have hW' := hW
  obtain ⟨p, q, hA0, hV, rfl, hfz, hnd⟩ := hW
  have hA : DataW.TrodAll enc Tryd.prog W 0 (fun _ => true) true Tryd.f3.params.toList args.toList ds p := hA0
  rw [Tryd.params3] at hA hval
  obtain ⟨v0, vs0, d0, ds0, p0, q0, hargs, rfl, rfl, h0, r0⟩ := trodAll_cons hA
  obtain ⟨rfl, rfl, rfl⟩ := trodAll_nil r0
  obtain rfl : args = #[v0] := by cases args; simp_all
  obtain ⟨rfl, rfl⟩ := trodVars_none hV
  obtain ⟨l0, hl0, rfl, hw0⟩ := open_ints_struct (k := .i64) Tryd.underlying23 (by kernel_rfl) (by kernel_rfl) (hval 0 23 v0 rfl rfl) h0
  obtain ⟨x0_0, x0_1, x0_2, x0_3, x0_4, rfl⟩ := list5 (show l0.length = 5 from hl0)
  clear hA0 hval0
  refine (walk W x0_0 x0_1 x0_2 x0_3 x0_4 (hw0 x0_0 (by simp)) (hw0 x0_1 (by simp)) (hw0 x0_2 (by simp)) (hw0 x0_3 (by simp)) (hw0 x0_4 (by simp)) (tb_of hL)).mono fun e W' ⟨he, hB⟩ => ?_
  subst he
  exact ⟨_, rfl, law_post laidOut Tryd.underlying4 rfl (by kernel_rfl) (by kernel_rfl) hW' rfl rfl rfl hB⟩

theorem proved : Rows.FnExactControlTextSaid :=
  OpenClaim.holds_of_wide 3 Tryd.f3 rfl rfl rfl rfl rfl rfl rfl ⟨rfl, rfl, rfl, rfl, rfl⟩ rfl rfl rfl rfl rfl (by kernel_rfl) Tryd.func3 (joined rfl rfl rfl (by kernel_rfl))
    (of_decide_eq_true (by kernel_rfl)) (by unfold Func.isWrapper; first | (rw [if_pos (by decide +kernel)]; kernel_rfl) | (rw [if_neg (by decide +kernel)]; exact ⟨rfl, rfl⟩))
    (fun os started H enc _ => lifted os started H enc)
theorem carded : Rows.FnExactControlTextCardSaid :=
  Claim7.holds_tied_plain_at .later [] [.data, .data, .data] true (true, "46da9e778094b2d0797e3a68db34fa2b479d2ce465d97567531e9c997d275276") true
    proved (fun _ h => by cases h) (by kernel_rfl) (fun _ h => by cases h) fnExactControlText_row_tie rfl ⟨rfl, rfl⟩ (by kernel_rfl) rfl
    (fun f fn hf hfn => by
      obtain rfl : f = 3 := Option.some.inj ((show Tryd.prog.funcNamed "loop.example/g00932/laws.FnExactControlText" = some 3 by kernel_rfl).symm.trans hf) |>.symm
      obtain rfl : fn = Tryd.f3 := (Option.some.inj (Tryd.func3.symm.trans hfn)).symm
      exact ⟨by kernel_rfl, fun j t ht => by
        rw [Tryd.params3] at ht
        have hm : t ∈ [23] := by simpa using Array.mem_of_getElem? ht
        have hall : ([23].all fun u => !Tryd.prog.wantsStandIn u) = true := by kernel_rfl
        exact (show Tryd.prog.wantsStandIn t = false by simpa using List.all_eq_true.1 hall t hm)⟩)
    (by kernel_rfl)
#print axioms carded
end fnExactControlText
end Go.Proofs.YtijeefigfpcndaaDoor
