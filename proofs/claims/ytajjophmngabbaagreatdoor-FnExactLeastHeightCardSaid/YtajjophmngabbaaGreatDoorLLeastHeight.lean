/-
  FnExactLeastHeight: the law answers true at every input, and the input reads behind the call as it read before. No condition.
-/
import Derived.Test.YtajjophmngabbaaGreatDoorFrame
import Derived.Test.YtajjophmngabbaaGreatDoorFacts
import Derived.WalkKit
import Derived.WalkSpells
import Derived.WalkLawsBesides
import Derived.Deep.RegionWith
import Derived.Deep.DeepCutAuto
import Derived.Test.YtajjophmngabbaaGreatDoorOpnSite
import Derived.Test.YtajjophmngabbaaGreatDoorCr3
import Derived.Test.YtajjophmngabbaaGreatDoorGe9
import Derived.Test.YtajjophmngabbaaGreatDoorGi10
import Derived.Test.YtajjophmngabbaaGreatDoorTq
import Derived.Test.YtajjophmngabbaaGreatDoorFrv
import Derived.LaidMore
import Derived.Stop.Joined
import Derived.Stop.LaidErr
import Derived.SevenTiedAt
import Derived.Test.YtajjophmngabbaaGreatDoorCards
import Derived.Test.YtajjophmngabbaaGreatDoorTie
namespace Go.Proofs.YtajjophmngabbaaGreatDoor
open Go.ChangeShapes Go.WideShapes Go.ChangeAt Go.RowKit
namespace fnExactLeastHeight
set_option linter.unusedVariables false
set_option linter.unusedSimpArgs false
set_option maxRecDepth 100000 in
set_option maxHeartbeats 8000000 in
theorem walk (w : World) (A0 : Option Addr) (n0 c0 : Nat) (l0 : List Crn) (hm0 : n0 ≤ maxLen) (hr0 : RdC w 0 w.heap.size false A0 n0 l0) (hw0 : ∀ p ∈ l0, p.nm.size ≤ maxLen) (x1 : Int) (b1 : (Lit.int .i64 x1).wf = true) (x2 : Int) (b2 : (Lit.int .i64 x2).wf = true) (ht : Tq w) :
    Calls Tryz.prog 3 #[.agg #[.slice A0 n0 c0], .int .i64 x1, .int .i64 x2] w fun e w' => e = .returned (.bool true) ∧ Below w.heap.size w w' := by
  have hq00 : 0 < w.heap.size := ht.1
  by_cases hq : (n0 : Int) + (szT l0 n0 : Nat) ≤ 1048576
  · skip
    have hn : n0 ≤ 1048576 := by omega
    have hlen : l0.length = n0 := hr0.length
    have HCH : Hid (∀ p ∈ l0, p.ch.length ≤ 1048576) := hide (fun p hp => by obtain ⟨i, hi, rfl⟩ := List.mem_iff_getElem.1 hp; have := szT_each l0 i hi; rw [hlen] at this; omega)
    have HNM := hide hw0
    have HLEN := hide hlen
    clear hw0 hm0 hlen
    go_enter Tryz.func3, Tryz.ntmps3
    go_wp2_with fail
    obtain ⟨W0, hW0⟩ : ∃ W0 : World, W0 = (w.alloc (.cells #[.slice A0 n0 c0] 24)) := ⟨_, rfl⟩
    rw [← hW0]
    have hk : Box W0 (w.heap.size) [.slice A0 n0 c0] := by rw [hW0]; exact box_at _ _ _ _ (by simp)
    have hB : Below w.heap.size w W0 := by rw [hW0]; exact (by repeat (first | exact Below.refl _ _ | refine Below.drew ?_ | refine Below.alloc ?_ (by first | (simp; done) | (simp; omega)) _))
    have hs0 : w.heap.size + 1 ≤ W0.heap.size := by rw [hW0]; first | (simp; done) | (simp; omega)
    clear hW0
    replace hr0 := hr0.below hB (by omega)
    replace ht := ht.below hB (by omega)
    refine (szSite_ok A0 n0 c0 0 w.heap.size false l0 _ hq (by omega) _ hr0 (by omega)).mono ?_
    rintro e w1 ⟨rfl, hb⟩
    have hbb : Below W0.heap.size W0 w1 := Below.trans (by repeat (first | exact Below.refl _ _ | refine Below.drew ?_ | refine Below.alloc ?_ (by first | (simp; done) | (simp; omega)) _)) (Below.mono hb (by simp))
    clear hb
    have hs1 := hbb.size
    replace hr0 := hr0.below hbb (by omega)
    replace ht := ht.below hbb (by omega)
    replace hk := hk.below hbb (by omega)
    replace hB := hB.trans (hbb.mono (by omega))
    clear hbb
    have nhk : w.heap.size < w1.heap.size := by omega
    have lhk_0 := hk 0 _ rfl
    go_wp2_with fail
    clear nhk lhk_0
    refine (toSite_any A0 n0 c0 0 w.heap.size false l0 hn HCH.out _ hr0 (by omega)).mono ?_
    rintro e w2 ⟨Aa, rfl, hra, hb⟩
    have hbb : Below w1.heap.size w1 w2 := Below.trans (by repeat (first | exact Below.refl _ _ | refine Below.drew ?_ | refine Below.alloc ?_ (by first | (simp; done) | (simp; omega)) _)) (Below.mono hb (by simp))
    clear hb
    have hs2 := hbb.size
    replace hr0 := hr0.below hbb (by omega)
    replace ht := ht.below hbb (by omega)
    replace hk := hk.below hbb (by omega)
    replace hB := hB.trans (hbb.mono (by omega))
    clear hbb
    obtain ⟨qa, hqa, hra⟩ : ∃ q, q ≤ w2.heap.size ∧ RdC w2 _ q true Aa n0 l0 := ⟨_, Nat.le_refl _, hra⟩
    go_wp2_with fail
    refine (specLeastHeight_any Aa n0 n0 _ _ true l0 hn HCH.out HNM.out _ hra (by omega) x1 x2).mono ?_
    rintro e w3 ⟨va, vc, rfl, hLa, hb⟩
    have hbb : Below w2.heap.size w2 w3 := Below.trans (by repeat (first | exact Below.refl _ _ | refine Below.drew ?_ | refine Below.alloc ?_ (by first | (simp; done) | (simp; omega)) _)) (Below.mono hb (by simp))
    clear hb
    have hs3 := hbb.size
    replace hr0 := hr0.below hbb (by omega)
    replace ht := ht.below hbb (by omega)
    replace hra := hra.below hbb (by omega)
    replace hk := hk.below hbb (by omega)
    replace hB := hB.trans (hbb.mono (by omega))
    clear hbb
    have HLA := hide hLa
    clear hLa
    have nhk : w.heap.size < w3.heap.size := by omega
    have lhk_0 := hk 0 _ rfl
    go_wp2_with fail
    clear nhk lhk_0
    refine (toSite_any A0 n0 c0 0 w.heap.size false l0 hn HCH.out _ hr0 (by omega)).mono ?_
    rintro e w4 ⟨Ab, rfl, hrb, hb⟩
    have hbb : Below w3.heap.size w3 w4 := Below.trans (by repeat (first | exact Below.refl _ _ | refine Below.drew ?_ | refine Below.alloc ?_ (by first | (simp; done) | (simp; omega)) _)) (Below.mono hb (by simp))
    clear hb
    have hs4 := hbb.size
    replace hr0 := hr0.below hbb (by omega)
    replace ht := ht.below hbb (by omega)
    replace hk := hk.below hbb (by omega)
    replace hB := hB.trans (hbb.mono (by omega))
    clear hbb
    obtain ⟨qb, hqb, hrb⟩ : ∃ q, q ≤ w4.heap.size ∧ RdC w4 _ q true Ab n0 l0 := ⟨_, Nat.le_refl _, hrb⟩
    go_wp2_with fail
    obtain ⟨w5, hW⟩ : ∃ W : World, W = (w4.alloc (.cells #[.slice Ab n0 n0] 30)) := ⟨_, rfl⟩
    rw [← hW]
    have kb : Box w5 (w4.heap.size) [.slice Ab n0 n0] := by rw [hW]; exact box_at _ _ _ _ (by simp)
    have hbb : Below w4.heap.size w4 w5 := by rw [hW]; exact (by repeat (first | exact Below.refl _ _ | refine Below.drew ?_ | refine Below.alloc ?_ (by first | (simp; done) | (simp; omega)) _))
    have hs5 : w4.heap.size + 1 ≤ w5.heap.size := by rw [hW]; first | (simp; done) | (simp; omega)
    clear hW
    replace hr0 := hr0.below hbb (by omega)
    replace ht := ht.below hbb (by omega)
    replace hrb := hrb.below hbb (by omega)
    replace hk := hk.below hbb (by omega)
    replace hB := hB.trans (hbb.mono (by omega))
    clear hbb
    refine (implLeastHeight_any Ab n0 n0 _ _ true l0 hn HCH.out HNM.out _ hrb (by omega) (Nat.le_refl _) x1 x2 ht).mono ?_
    rintro e w6 ⟨vb, vd, rfl, hLb, hb⟩
    have hbb : Below w5.heap.size w5 w6 := Below.trans (by repeat (first | exact Below.refl _ _ | refine Below.drew ?_ | refine Below.alloc ?_ (by first | (simp; done) | (simp; omega)) _)) (Below.mono hb (by simp))
    clear hb
    have hs6 := hbb.size
    replace hr0 := hr0.below hbb (by omega)
    replace ht := ht.below hbb (by omega)
    replace hrb := hrb.below hbb (by omega)
    replace hk := hk.below hbb (by omega)
    replace kb := kb.below hbb (by omega)
    replace hB := hB.trans (hbb.mono (by omega))
    clear hbb
    obtain ⟨rfl, rfl⟩ := HLA.out.one hLb
    clear hLb HLA
    clear ht
    have nhk : w.heap.size < w6.heap.size := by omega
    have lhk_0 := hk 0 _ rfl
    have nkb : w4.heap.size < w6.heap.size := by omega
    have lkb_0 := kb 0 _ rfl
    go_wp2_with fail
    clear nhk lhk_0 nkb lkb_0
    have HS : Hid ((World.drew w6).cell? ⟨w.heap.size, 0, none⟩ = some (.slice A0 n0 c0) ∧ (World.drew w6).cell? ⟨w4.heap.size, 0, none⟩ = some (.slice Ab n0 n0)) := hide ⟨hk 0 _ rfl, kb 0 _ rfl⟩
    go_region_held3 (fun W => W.cell? ⟨w.heap.size, 0, none⟩ = some (.slice A0 n0 c0) ∧ W.cell? ⟨w4.heap.size, 0, none⟩ = some (.slice Ab n0 n0)) (with_reducible exact HS.out) (first | (go_at_call 6; (with_reducible refine (toSite_any A0 n0 c0 0 w.heap.size false l0 hn HCH.out _ hr0.drew (le_drew (by omega))).mono ?_); rintro e w7 ⟨Az, rfl, hrz, hb⟩; have hbb : Below w6.heap.size w6 w7 := Below.trans (by repeat (first | exact Below.refl _ _ | refine Below.drew ?_ | refine Below.alloc ?_ (by first | (simp; done) | (simp; omega)) _)) (Below.mono hb (by simp)); clear hb; have hs7 := hbb.size; replace hr0 := hr0.below hbb (by omega); replace hrb := hrb.below hbb (by omega); replace hk := hk.below hbb (by omega); replace kb := kb.below hbb (by omega); replace hB := hB.trans (hbb.mono (by omega)); clear hbb; obtain ⟨qz, hqz, hrz⟩ : ∃ q, q ≤ w7.heap.size ∧ RdC w7 _ q true Az n0 l0 := ⟨_, Nat.le_refl _, hrz⟩; have HS : Hid (w7.cell? ⟨w.heap.size, 0, none⟩ = some (.slice A0 n0 c0) ∧ w7.cell? ⟨w4.heap.size, 0, none⟩ = some (.slice Ab n0 n0)) := hide ⟨hk 0 _ rfl, kb 0 _ rfl⟩) | (go_at_call 8; (with_reducible refine (eqSite_same Ab Az n0 n0 n0 _ _ _ _ true true l0 hn HCH.out _ hrb hrz (by omega) (by omega)).mono ?_); rintro e w8 ⟨rfl, hb⟩; have hbb : Below w7.heap.size w7 w8 := Below.trans (by repeat (first | exact Below.refl _ _ | refine Below.drew ?_ | refine Below.alloc ?_ (by first | (simp; done) | (simp; omega)) _)) (Below.mono hb (by simp)); clear hb; have hs8 := hbb.size; replace hr0 := hr0.below hbb (by omega); replace hrb := hrb.below hbb (by omega); replace hrz := hrz.below hbb (by omega); replace hk := hk.below hbb (by omega); replace kb := kb.below hbb (by omega); replace hB := hB.trans (hbb.mono (by omega)); clear hbb; have HS : Hid (w8.cell? ⟨w.heap.size, 0, none⟩ = some (.slice A0 n0 c0) ∧ w8.cell? ⟨w4.heap.size, 0, none⟩ = some (.slice Ab n0 n0)) := hide ⟨hk 0 _ rfl, kb 0 _ rfl⟩))
    go_wp2_with fail
    go_ret
    exact ⟨rfl, hB⟩
  · skip
    have HNM := hide hw0
    clear hw0
    go_enter Tryz.func3, Tryz.ntmps3
    go_wp2_with fail
    obtain ⟨W0, hW0⟩ : ∃ W0 : World, W0 = (w.alloc (.cells #[.slice A0 n0 c0] 24)) := ⟨_, rfl⟩
    rw [← hW0]
    have hk : Box W0 (w.heap.size) [.slice A0 n0 c0] := by rw [hW0]; exact box_at _ _ _ _ (by simp)
    have hB : Below w.heap.size w W0 := by rw [hW0]; exact (by repeat (first | exact Below.refl _ _ | refine Below.drew ?_ | refine Below.alloc ?_ (by first | (simp; done) | (simp; omega)) _))
    have hs0 : w.heap.size + 1 ≤ W0.heap.size := by rw [hW0]; first | (simp; done) | (simp; omega)
    clear hW0
    replace hr0 := hr0.below hB (by omega)
    refine (szSite_big A0 n0 c0 0 w.heap.size false l0 _ (by omega) (by omega) (by omega) hm0 HNM.out _ hr0 (by omega)).mono ?_
    rintro e w1 ⟨rfl, hb⟩
    have hbb : Below W0.heap.size W0 w1 := Below.trans (by repeat (first | exact Below.refl _ _ | refine Below.drew ?_ | refine Below.alloc ?_ (by first | (simp; done) | (simp; omega)) _)) (Below.mono hb (by simp))
    clear hb
    have hs1 := hbb.size
    replace hr0 := hr0.below hbb (by omega)
    replace hk := hk.below hbb (by omega)
    replace hB := hB.trans (hbb.mono (by omega))
    clear hbb
    go_wp2_with fail
    go_ret
    exact ⟨rfl, hB⟩

theorem door_met (os : Os) (args : Array Value) : laidMetH Tryz.prog Rows.fnExactLeastHeightRow.laid ((World.doorLaid Tryz.prog 4000 os).forCall (fun _ _ => 0) ⟨#[], args, []⟩).memory := by
  rw [MakeChecks.laidMetH_plain _ _ _ (by kernel_rfl)]
  exact laidMet_of_run' 8 (by kernel_rfl) (by kernel_rfl)
theorem tb_of {W : World} (h : laidMetH Tryz.prog Rows.fnExactLeastHeightRow.laid W) : Tq W := by
  rw [MakeChecks.laidMetH_plain _ _ _ (by kernel_rfl)] at h
  exact Tq.laid (rest := []) h
set_option maxRecDepth 100000 in
theorem lifted (os : Os) (started : os.Started) (H : Type) (enc : TypeId × Value → H) :
    ReturnsInHanded {} Tryz.checked os 3 .any (fun w args => (Rows.fnExactLeastHeightSpec.pre enc Tryz.prog Tryz.f3 Rows.fnExactLeastHeightRow.domain false w args ∧ laidMetH Tryz.prog Rows.fnExactLeastHeightRow.laid w) ∧ sizedMet enc Tryz.prog Tryz.f3 (OpenSpec.ofChange Rows.fnExactLeastHeightSpec) false w args)
      (Rows.fnExactLeastHeightSpec.post enc Tryz.prog Tryz.f3 false true false false) := by
  refine returnsInHanded_of_change_and (C := Tryz.checked) (X := fun w _ => laidMetH Tryz.prog Rows.fnExactLeastHeightRow.laid w) (fun _ _ _ hh h => h.of_heap hh) own started (by kernel_rfl) Tryz.func3
    (ChangeSpec.witness_shaped (enc := enc) (C := Tryz.checked) (os := os) (X := fun w _ => laidMetH Tryz.prog Rows.fnExactLeastHeightRow.laid w) false (World.doorLaid Tryz.prog 4000 os) #[.agg #[.slice none 0 0], .int .i64 0, .int .i64 0] 8 rfl (World.shaped_of_RefB (by kernel_rfl) (by kernel_rfl)) (by kernel_rfl) (by kernel_rfl) (by kernel_rfl) (door_met os _)) ?_
  intro W base args ds gs before hval0 hW _ _ hL _
  have hval : ∀ (j : Nat) t v, Tryz.f3.params[j]? = some t → args[j]? = some v → Value.okWide Tryz.prog W .any base t v := hval0
  have hW' := hW
  obtain ⟨p, q, hA0, hV, rfl, hfz, hnd⟩ := hW
  have hA : DataW.TrodAll enc Tryz.prog W 0 (fun _ => true) true Tryz.f3.params.toList args.toList ds p := hA0
  rw [Tryz.params3] at hA hval
  obtain ⟨v0, vs0, d0, ds0, p0, q0, hargs, rfl, rfl, h0, r0⟩ := trodAll_cons hA
  obtain ⟨v1, vs1, d1, ds1, p1, q1, rfl, rfl, rfl, h1, r1⟩ := trodAll_cons r0
  obtain ⟨v2, vs2, d2, ds2, p2, q2, rfl, rfl, rfl, h2, r2⟩ := trodAll_cons r1
  obtain ⟨rfl, rfl, rfl⟩ := trodAll_nil r2
  obtain rfl : args = #[v0, v1, v2] := by cases args; simp_all
  obtain ⟨g0, t0, cs0, fuel0, dv0, pv0, rfl, _, _, _, _, rfl⟩ := trodVars_one hV
  obtain ⟨A0, n0, c0, l0, rfl, hnc0, hcm0, hr0, hw0⟩ := open_Site (hval 0 24 v0 rfl rfl) h0
  obtain ⟨x1, rfl, rfl, rfl, b1⟩ := open_int Tryz.underlying2 (hval 1 2 v1 rfl rfl) h1
  obtain ⟨x2, rfl, rfl, rfl, b2⟩ := open_int Tryz.underlying2 (hval 2 2 v2 rfl rfl) h2
  clear hA0 hval0
  refine (walk W A0 n0 c0 l0 (Nat.le_trans hnc0 hcm0) hr0 hw0 x1 b1 x2 b2 (tb_of hL)).mono fun e W' ⟨he, hB⟩ => ?_
  subst he
  exact ⟨_, rfl, law_post_v laidOut Tryz.underlying4 rfl (by kernel_rfl) (by kernel_rfl) (by kernel_rfl) hW' rfl rfl rfl hB⟩

theorem proved : Rows.FnExactLeastHeightSaid :=
  OpenClaim.holds_of_wide 3 Tryz.f3 rfl rfl rfl rfl rfl rfl rfl ⟨rfl, rfl, rfl, rfl, rfl⟩ rfl rfl rfl rfl rfl (by kernel_rfl) Tryz.func3 (joined rfl rfl rfl (by kernel_rfl))
    (of_decide_eq_true (by kernel_rfl)) (by unfold Func.isWrapper; first | (rw [if_pos (by decide +kernel)]; kernel_rfl) | (rw [if_neg (by decide +kernel)]; exact ⟨rfl, rfl⟩))
    (fun os started H enc _ => lifted os started H enc)
theorem carded : Rows.FnExactLeastHeightCardSaid :=
  Claim7.holds_tied_plain_at .later [] [.data] true (true, "64d9ad21db1809045c17041ef5ce4f351f811d2d08cdd9211b4ad4fa04bcf3e0") false
    proved (fun _ h => by cases h) (by kernel_rfl) (fun _ h => by cases h) fnExactLeastHeight_row_tie rfl ⟨rfl, rfl⟩ (by kernel_rfl) rfl
    (fun f fn hf hfn => by
      obtain rfl : f = 3 := Option.some.inj ((show Tryz.prog.funcNamed "loop.example/g00932/laws.FnExactLeastHeight" = some 3 by kernel_rfl).symm.trans hf) |>.symm
      obtain rfl : fn = Tryz.f3 := (Option.some.inj (Tryz.func3.symm.trans hfn)).symm
      exact ⟨by kernel_rfl, fun j t ht => by
        rw [Tryz.params3] at ht
        have hm : t ∈ [24, 2, 2] := by simpa using Array.mem_of_getElem? ht
        have hall : ([24, 2, 2].all fun u => !Tryz.prog.wantsStandIn u) = true := by kernel_rfl
        exact (show Tryz.prog.wantsStandIn t = false by simpa using List.all_eq_true.1 hall t hm)⟩)
    (by kernel_rfl)
#print axioms carded
end fnExactLeastHeight
end Go.Proofs.YtajjophmngabbaaGreatDoor
