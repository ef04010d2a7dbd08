/-
  FnExactStartStates: the law answers true at every input, and the input reads behind the call as it read before. No condition.
-/
import Derived.Test.YtmpccakgpahpoaaFrame
import Derived.Test.YtmpccakgpahpoaaFacts
import Derived.WalkKit
import Derived.WalkSpells
import Derived.WalkLawsBesides
import Derived.Deep.RegionWith
import Derived.Deep.DeepCutAuto
import Derived.Test.YtmpccakgpahpoaaOpnSite
import Derived.Test.YtmpccakgpahpoaaSt
import Derived.Test.YtmpccakgpahpoaaMkC
namespace Go.Proofs.Ytmpccakgpahpoaa
open Go.ChangeShapes Go.WideShapes Go.ChangeAt Go.RowKit
namespace fnExactStartStates
set_option linter.unusedVariables false
set_option maxRecDepth 100000 in
set_option maxHeartbeats 4000000 in
theorem walk (w : World) (A0 : Option Addr) (n0 c0 : Nat) (l0 : List Crn) (hm0 : n0 ≤ maxLen) (hr0 : RdC w 0 w.heap.size false A0 n0 l0) (hw0 : ∀ p ∈ l0, p.nm.size ≤ maxLen) :
    Calls Try.prog 8 #[.agg #[.slice A0 n0 c0]] w fun e w' => e = .returned (.bool true) ∧ Below w.heap.size w w' := by
  by_cases hq : (n0 : Int) + (szT l0 n0 : Nat) ≤ 1048576
  · skip
    have hn : n0 ≤ 1048576 := by omega
    have hlen : l0.length = n0 := hr0.length
    have HCH : Hid (∀ p ∈ l0, p.ch.length ≤ 1048576) := hide (fun p hp => by obtain ⟨i, hi, rfl⟩ := List.mem_iff_getElem.1 hp; have := szT_each l0 i hi; rw [hlen] at this; omega)
    have HNM := hide hw0
    have HLEN := hide hlen
    clear hw0 hm0 hlen
    go_enter Try.func8, Try.ntmps8
    go_wp2_with fail
    obtain ⟨W0, hW0⟩ : ∃ W0 : World, W0 = (w.alloc (.cells #[.slice A0 n0 c0] 31)) := ⟨_, rfl⟩
    rw [← hW0]
    have hk : Box W0 (w.heap.size) [.slice A0 n0 c0] := by rw [hW0]; exact box_at _ _ _ _ (by simp)
    have hB : Below w.heap.size w W0 := by rw [hW0]; exact (by repeat (first | exact Below.refl _ _ | refine Below.drew ?_ | refine Below.alloc ?_ (by first | (simp; done) | (simp; omega)) _))
    have hs0 : w.heap.size + 1 ≤ W0.heap.size := by rw [hW0]; first | (simp; done) | (simp; omega)
    clear hW0
    replace hr0 := hr0.below hB (by omega)
    refine (szSite_ok A0 n0 c0 0 w.heap.size false l0 _ hq (by omega) _ hr0 (by omega)).mono ?_
    rintro e w1 ⟨rfl, hb⟩
    have hbb : Below W0.heap.size W0 w1 := Below.trans (by repeat (first | exact Below.refl _ _ | refine Below.drew ?_ | refine Below.alloc ?_ (by first | (simp; done) | (simp; omega)) _)) (Below.mono hb (by simp))
    clear hb
    have hs1 := hbb.size
    replace hr0 := hr0.below hbb (by omega)
    replace hk := hk.below hbb (by omega)
    replace hB := hB.trans (hbb.mono (by omega))
    clear hbb
    have nhk : w.heap.size < w1.heap.size := by omega
    have lhk_0 := hk 0 _ rfl
    have hLn : (ssL l0).length ≤ 1048576 := Nat.le_trans (by have := ssL_len l0; rw [HLEN.out] at this; exact this) (by omega)
    have HLN := hide hLn
    clear hLn
    go_wp2_with fail
    clear nhk lhk_0
    refine (toSite_any A0 n0 c0 0 w.heap.size false l0 hn HCH.out _ hr0 (by omega)).mono ?_
    rintro e w2 ⟨Aa, rfl, hra, hb⟩
    have hbb : Below w1.heap.size w1 w2 := Below.trans (by repeat (first | exact Below.refl _ _ | refine Below.drew ?_ | refine Below.alloc ?_ (by first | (simp; done) | (simp; omega)) _)) (Below.mono hb (by simp))
    clear hb
    have hs2 := hbb.size
    replace hr0 := hr0.below hbb (by omega)
    replace hk := hk.below hbb (by omega)
    replace hB := hB.trans (hbb.mono (by omega))
    clear hbb
    obtain ⟨qa, hqa, hra⟩ : ∃ q, q ≤ w2.heap.size ∧ RdC w2 _ q true Aa n0 l0 := ⟨_, Nat.le_refl _, hra⟩
    go_wp2_with fail
    refine (specStartStates_any Aa n0 n0 _ _ true l0 hn HCH.out HNM.out _ hra (by omega)).mono ?_
    rintro e w3 ⟨vs, rfl, hos, hb⟩
    have hbb : Below w2.heap.size w2 w3 := Below.trans (by repeat (first | exact Below.refl _ _ | refine Below.drew ?_ | refine Below.alloc ?_ (by first | (simp; done) | (simp; omega)) _)) (Below.mono hb (by simp))
    clear hb
    have hs3 := hbb.size
    replace hr0 := hr0.below hbb (by omega)
    replace hra := hra.below hbb (by omega)
    replace hk := hk.below hbb (by omega)
    replace hB := hB.trans (hbb.mono (by omega))
    clear hbb
    obtain ⟨As, cs, rfl, hncs, hcms, hrs⟩ := hos.rd; obtain ⟨qs, ⟨hqs, hps⟩, hos, hrs⟩ : ∃ q, (q ≤ w3.heap.size ∧ w2.heap.size ≤ q) ∧ Own w3 _ q _ _ _ _ _ ∧ Rd w3 _ q _ _ _ _ := ⟨_, ⟨Nat.le_refl _, by omega⟩, hos, hrs⟩
    have nhk : w.heap.size < w3.heap.size := by omega
    have lhk_0 := hk 0 _ rfl
    go_wp2_with fail
    clear nhk lhk_0
    refine (toSite_any A0 n0 c0 0 w.heap.size false l0 hn HCH.out _ hr0 (by omega)).mono ?_
    rintro e w4 ⟨Ab, rfl, hrb, hb⟩
    have hbb : Below w3.heap.size w3 w4 := Below.trans (by repeat (first | exact Below.refl _ _ | refine Below.drew ?_ | refine Below.alloc ?_ (by first | (simp; done) | (simp; omega)) _)) (Below.mono hb (by simp))
    clear hb
    have hs4 := hbb.size
    replace hr0 := hr0.below hbb (by omega)
    replace hos := hos.below hbb (by omega)
    replace hrs := hrs.below hbb (by omega)
    replace hk := hk.below hbb (by omega)
    replace hB := hB.trans (hbb.mono (by omega))
    clear hbb
    obtain ⟨qb, hqb, hrb⟩ : ∃ q, q ≤ w4.heap.size ∧ RdC w4 _ q true Ab n0 l0 := ⟨_, Nat.le_refl _, hrb⟩
    go_wp2_with fail
    obtain ⟨w5, hW⟩ : ∃ W : World, W = (w4.alloc (.cells #[.slice Ab n0 n0] 36)) := ⟨_, rfl⟩
    rw [← hW]
    have kb : Box w5 (w4.heap.size) [.slice Ab n0 n0] := by rw [hW]; exact box_at _ _ _ _ (by simp)
    have hbb : Below w4.heap.size w4 w5 := by rw [hW]; exact (by repeat (first | exact Below.refl _ _ | refine Below.drew ?_ | refine Below.alloc ?_ (by first | (simp; done) | (simp; omega)) _))
    have hs5 : w4.heap.size + 1 ≤ w5.heap.size := by rw [hW]; first | (simp; done) | (simp; omega)
    clear hW
    replace hr0 := hr0.below hbb (by omega)
    replace hos := hos.below hbb (by omega)
    replace hrs := hrs.below hbb (by omega)
    replace hrb := hrb.below hbb (by omega)
    replace hk := hk.below hbb (by omega)
    replace hB := hB.trans (hbb.mono (by omega))
    clear hbb
    go_wp2_with fail
    refine (implStartStates_any Ab n0 n0 _ _ true l0 hn HCH.out HNM.out _ hrb (by omega) (Nat.le_refl _)).mono ?_
    rintro e w6 ⟨vg, rfl, hog, hb⟩
    have hbb : Below w5.heap.size w5 w6 := Below.trans (by repeat (first | exact Below.refl _ _ | refine Below.drew ?_ | refine Below.alloc ?_ (by first | (simp; done) | (simp; omega)) _)) (Below.mono hb (by simp))
    clear hb
    have hs6 := hbb.size
    replace hr0 := hr0.below hbb (by omega)
    replace hos := hos.below hbb (by omega)
    replace hrs := hrs.below hbb (by omega)
    replace hrb := hrb.below hbb (by omega)
    replace hk := hk.below hbb (by omega)
    replace kb := kb.below hbb (by omega)
    replace hB := hB.trans (hbb.mono (by omega))
    clear hbb
    obtain ⟨Ag, cg, rfl, hncg, hcmg, hrg⟩ := hog.rd; obtain ⟨qg, ⟨hqg, hpg⟩, hog, hrg⟩ : ∃ q, (q ≤ w6.heap.size ∧ w5.heap.size ≤ q) ∧ Own w6 _ q _ _ _ _ _ ∧ Rd w6 _ q _ _ _ _ := ⟨_, ⟨Nat.le_refl _, by omega⟩, hog, hrg⟩
    go_wp2_with fail
    refine (eqCraneStateS_same Ag As _ cg cs _ _ _ _ (ssL l0) HLN.out _ rfl hrg hrs (by omega) (by omega)).mono ?_
    rintro e w7 ⟨rfl, hb⟩
    have hbb : Below w6.heap.size w6 w7 := Below.trans (by repeat (first | exact Below.refl _ _ | refine Below.drew ?_ | refine Below.alloc ?_ (by first | (simp; done) | (simp; omega)) _)) (Below.mono hb (by simp))
    clear hb
    have hs7 := hbb.size
    replace hr0 := hr0.below hbb (by omega)
    replace hos := hos.below hbb (by omega)
    replace hrs := hrs.below hbb (by omega)
    replace hrb := hrb.below hbb (by omega)
    replace hog := hog.below hbb (by omega)
    replace hrg := hrg.below hbb (by omega)
    replace hk := hk.below hbb (by omega)
    replace kb := kb.below hbb (by omega)
    replace hB := hB.trans (hbb.mono (by omega))
    clear hbb
    have nhk : w.heap.size < w7.heap.size := by omega
    have lhk_0 := hk 0 _ rfl
    have nkb : w4.heap.size < w7.heap.size := by omega
    have lkb_0 := kb 0 _ rfl
    go_wp2_with fail
    clear nhk lhk_0 nkb lkb_0
    have HS : Hid ((World.drew w7).cell? ⟨w.heap.size, 0, none⟩ = some (.slice A0 n0 c0) ∧ (World.drew w7).cell? ⟨w4.heap.size, 0, none⟩ = some (.slice Ab n0 n0)) := hide ⟨hk 0 _ rfl, kb 0 _ rfl⟩
    go_region_held3 (fun W => W.cell? ⟨w.heap.size, 0, none⟩ = some (.slice A0 n0 c0) ∧ W.cell? ⟨w4.heap.size, 0, none⟩ = some (.slice Ab n0 n0)) (with_reducible exact HS.out) (first | (go_at_call 18; (with_reducible refine (toSite_any A0 n0 c0 0 w.heap.size false l0 hn HCH.out _ hr0.drew (le_drew (by omega))).mono ?_); rintro e w8 ⟨Az, rfl, hrz, hb⟩; have hbb : Below w7.heap.size w7 w8 := Below.trans (by repeat (first | exact Below.refl _ _ | refine Below.drew ?_ | refine Below.alloc ?_ (by first | (simp; done) | (simp; omega)) _)) (Below.mono hb (by simp)); clear hb; have hs8 := hbb.size; replace hr0 := hr0.below hbb (by omega); replace hos := hos.below hbb (by omega); replace hrs := hrs.below hbb (by omega); replace hrb := hrb.below hbb (by omega); replace hog := hog.below hbb (by omega); replace hrg := hrg.below hbb (by omega); replace hk := hk.below hbb (by omega); replace kb := kb.below hbb (by omega); replace hB := hB.trans (hbb.mono (by omega)); clear hbb; obtain ⟨qz, hqz, hrz⟩ : ∃ q, q ≤ w8.heap.size ∧ RdC w8 _ q true Az n0 l0 := ⟨_, Nat.le_refl _, hrz⟩; have HS : Hid (w8.cell? ⟨w.heap.size, 0, none⟩ = some (.slice A0 n0 c0) ∧ w8.cell? ⟨w4.heap.size, 0, none⟩ = some (.slice Ab n0 n0)) := hide ⟨hk 0 _ rfl, kb 0 _ rfl⟩) | (go_at_call 20; (with_reducible refine (eqSite_same Ab Az n0 n0 n0 _ _ _ _ true true l0 hn HCH.out _ hrb hrz (by omega) (by omega)).mono ?_); rintro e w9 ⟨rfl, hb⟩; have hbb : Below w8.heap.size w8 w9 := Below.trans (by repeat (first | exact Below.refl _ _ | refine Below.drew ?_ | refine Below.alloc ?_ (by first | (simp; done) | (simp; omega)) _)) (Below.mono hb (by simp)); clear hb; have hs9 := hbb.size; replace hr0 := hr0.below hbb (by omega); replace hos := hos.below hbb (by omega); replace hrs := hrs.below hbb (by omega); replace hrb := hrb.below hbb (by omega); replace hog := hog.below hbb (by omega); replace hrg := hrg.below hbb (by omega); replace hrz := hrz.below hbb (by omega); replace hk := hk.below hbb (by omega); replace kb := kb.below hbb (by omega); replace hB := hB.trans (hbb.mono (by omega)); clear hbb; have HS : Hid (w9.cell? ⟨w.heap.size, 0, none⟩ = some (.slice A0 n0 c0) ∧ w9.cell? ⟨w4.heap.size, 0, none⟩ = some (.slice Ab n0 n0)) := hide ⟨hk 0 _ rfl, kb 0 _ rfl⟩))
    have KB := kb 0 _ rfl
    go_wp2_with fail
    refine (markSite_any Ab n0 n0 _ _ l0 _ (by omega) (by omega) (by rw [HLEN.out] at *; omega) _ hrb (by omega)).mono ?_
    rintro e w10 ⟨⟨rk, hrk, rfl⟩, ht⟩
    have hs10 := ht.size
    replace hr0 := hr0.tch ht (by omega) (by omega)
    replace hos := hos.tch ht (by omega)
    replace hrs := hrs.tch ht (by omega) (by omega)
    replace hog := hog.tch ht (by omega)
    replace hrg := hrg.tch ht (by omega) (by omega)
    have hbt := ht.below (by omega)
    replace hk := hk.below hbt (by omega)
    replace hB := hB.trans (hbt.mono (by omega))
    clear hbt ht
    go_wp2_with fail
    refine (eqCraneStateS_same Ag As _ cg cs _ _ _ _ (ssL l0) HLN.out _ rfl hrg hrs (by omega) (by omega)).mono ?_
    rintro e w11 ⟨rfl, hb⟩
    have hbb : Below w10.heap.size w10 w11 := Below.trans (by repeat (first | exact Below.refl _ _ | refine Below.drew ?_ | refine Below.alloc ?_ (by first | (simp; done) | (simp; omega)) _)) (Below.mono hb (by simp))
    clear hb
    have hs11 := hbb.size
    replace hr0 := hr0.below hbb (by omega)
    replace hos := hos.below hbb (by omega)
    replace hrs := hrs.below hbb (by omega)
    replace hog := hog.below hbb (by omega)
    replace hrg := hrg.below hbb (by omega)
    replace hk := hk.below hbb (by omega)
    replace hB := hB.trans (hbb.mono (by omega))
    clear hbb
    go_wp2_with fail
    refine (markCraneStateS_any _ _ _ _ _ 1 (by omega) (by omega) HLN.out _ hog (by omega)).mono ?_
    rintro e w12 ⟨rfl, hon, ht⟩
    have hs12 := ht.size
    replace hr0 := hr0.tch ht (by omega) (by omega)
    replace hos := hos.tch ht (by omega)
    replace hrs := hrs.tch ht (by omega) (by omega)
    have hbt := ht.below (by omega)
    replace hk := hk.below hbt (by omega)
    replace hB := hB.trans (hbt.mono (by omega))
    clear hbt ht
    obtain ⟨_, _, hen, _, _, hrn⟩ := hon.rd
    injection hen with e1 e2 e3
    subst e1
    subst e3
    clear e2 hon
    obtain ⟨qn, hqn, hrn⟩ : ∃ q, q ≤ w12.heap.size ∧ Rd w12 _ q _ _ _ _ := ⟨_, by omega, hrn⟩
    go_wp2_with fail
    refine (heldCraneStateS_any _ _ _ _ _ 1 (by omega) (by omega) HLN.out _ hrn).mono ?_
    rintro e w' ⟨rfl, rfl⟩
    have nhk : w.heap.size < w12.heap.size := by omega
    have lhk_0 := hk 0 _ rfl
    go_wp2_with fail
    clear nhk lhk_0
    refine (toSite_any A0 n0 c0 0 w.heap.size false l0 hn HCH.out _ hr0 (by omega)).mono ?_
    rintro e w13 ⟨Ad, rfl, hrd, hb⟩
    have hbb : Below w12.heap.size w12 w13 := Below.trans (by repeat (first | exact Below.refl _ _ | refine Below.drew ?_ | refine Below.alloc ?_ (by first | (simp; done) | (simp; omega)) _)) (Below.mono hb (by simp))
    clear hb
    have hs13 := hbb.size
    replace hr0 := hr0.below hbb (by omega)
    replace hos := hos.below hbb (by omega)
    replace hrs := hrs.below hbb (by omega)
    replace hrn := hrn.below hbb (by omega)
    replace hk := hk.below hbb (by omega)
    replace hB := hB.trans (hbb.mono (by omega))
    clear hbb
    obtain ⟨qd, hqd, hrd⟩ : ∃ q, q ≤ w13.heap.size ∧ RdC w13 _ q true Ad n0 l0 := ⟨_, Nat.le_refl _, hrd⟩
    go_wp2_with fail
    refine (implStartStates_any Ad n0 n0 _ _ true l0 hn HCH.out HNM.out _ hrd (by omega) (Nat.le_refl _)).mono ?_
    rintro e w14 ⟨vh, rfl, hoh, hb⟩
    have hbb : Below w13.heap.size w13 w14 := Below.trans (by repeat (first | exact Below.refl _ _ | refine Below.drew ?_ | refine Below.alloc ?_ (by first | (simp; done) | (simp; omega)) _)) (Below.mono hb (by simp))
    clear hb
    have hs14 := hbb.size
    replace hr0 := hr0.below hbb (by omega)
    replace hos := hos.below hbb (by omega)
    replace hrs := hrs.below hbb (by omega)
    replace hrn := hrn.below hbb (by omega)
    replace hrd := hrd.below hbb (by omega)
    replace hk := hk.below hbb (by omega)
    replace hB := hB.trans (hbb.mono (by omega))
    clear hbb
    obtain ⟨Ah, ch, rfl, hnch, hcmh, hrh⟩ := hoh.rd; obtain ⟨qh, ⟨hqh, hph⟩, hoh, hrh⟩ : ∃ q, (q ≤ w14.heap.size ∧ w13.heap.size ≤ q) ∧ Own w14 _ q _ _ _ _ _ ∧ Rd w14 _ q _ _ _ _ := ⟨_, ⟨Nat.le_refl _, by omega⟩, hoh, hrh⟩
    go_wp2_with fail
    refine (eqCraneStateS_same Ah As _ ch cs _ _ _ _ (ssL l0) HLN.out _ rfl hrh hrs (by omega) (by omega)).mono ?_
    rintro e w15 ⟨rfl, hb⟩
    have hbb : Below w14.heap.size w14 w15 := Below.trans (by repeat (first | exact Below.refl _ _ | refine Below.drew ?_ | refine Below.alloc ?_ (by first | (simp; done) | (simp; omega)) _)) (Below.mono hb (by simp))
    clear hb
    have hs15 := hbb.size
    replace hr0 := hr0.below hbb (by omega)
    replace hos := hos.below hbb (by omega)
    replace hrs := hrs.below hbb (by omega)
    replace hrn := hrn.below hbb (by omega)
    replace hoh := hoh.below hbb (by omega)
    replace hrh := hrh.below hbb (by omega)
    replace hk := hk.below hbb (by omega)
    replace hB := hB.trans (hbb.mono (by omega))
    clear hbb
    go_wp2_with fail
    refine (heldCraneStateS_any _ _ _ _ _ 1 (by omega) (by omega) HLN.out _ hrn).mono ?_
    rintro e w' ⟨rfl, rfl⟩
    go_wp2_with fail
    go_ret
    exact ⟨rfl, hB⟩
  · skip
    have HNM := hide hw0
    clear hw0
    go_enter Try.func8, Try.ntmps8
    go_wp2_with fail
    obtain ⟨W0, hW0⟩ : ∃ W0 : World, W0 = (w.alloc (.cells #[.slice A0 n0 c0] 31)) := ⟨_, rfl⟩
    rw [← hW0]
    have hk : Box W0 (w.heap.size) [.slice A0 n0 c0] := by rw [hW0]; exact box_at _ _ _ _ (by simp)
    have hB : Below w.heap.size w W0 := by rw [hW0]; exact (by repeat (first | exact Below.refl _ _ | refine Below.drew ?_ | refine Below.alloc ?_ (by first | (simp; done) | (simp; omega)) _))
    have hs0 : w.heap.size + 1 ≤ W0.heap.size := by rw [hW0]; first | (simp; done) | (simp; omega)
    clear hW0
    replace hr0 := hr0.below hB (by omega)
    refine (szSite_big A0 n0 c0 0 w.heap.size false l0 _ (by omega) (by omega) (by omega) hm0 HNM.out _ hr0 (by omega)).mono ?_
    rintro e w1 ⟨rfl, hb⟩
    have hbb : Below W0.heap.size W0 w1 := Below.trans (by repeat (first | exact Below.refl _ _ | refine Below.drew ?_ | refine Below.alloc ?_ (by first | (simp; done) | (simp; omega)) _)) (Below.mono hb (by simp))
    clear hb
    have hs1 := hbb.size
    replace hr0 := hr0.below hbb (by omega)
    replace hk := hk.below hbb (by omega)
    replace hB := hB.trans (hbb.mono (by omega))
    clear hbb
    go_wp2_with fail
    go_ret
    exact ⟨rfl, hB⟩

set_option maxRecDepth 100000 in
theorem lifted (os : Os) (started : os.Started) (H : Type) (enc : TypeId × Value → H) :
    ReturnsInHanded {} Try.checked os 8 .any (Rows.fnExactStartStatesSpec.pre6 enc Try.prog Try.f8 Rows.fnExactStartStatesRow.domain false) (Rows.fnExactStartStatesSpec.post enc Try.prog Try.f8 false true false false) := by
  refine returnsInHanded_of_change (C := Try.checked) own started (by kernel_rfl) Try.func8
    (ChangeSpec.witness6 (enc := enc) (C := Try.checked) false ⟨#[], #[.agg #[.slice none 0 0]], []⟩ 8 (by kernel_rfl) (by kernel_rfl) (by kernel_rfl) (by kernel_rfl)) ?_
  intro W base args ds gs before hval0 hW hcnd _
  have hval : ∀ (j : Nat) t v, Try.f8.params[j]? = some t → args[j]? = some v → Value.okWide Try.prog W .any base t v := hval0
  have hW' := hW
  obtain ⟨p, q, hA0, hV, rfl, hfz, hnd⟩ := hW
  have hA : DataW.TrodAll enc Try.prog W 0 (fun _ => true) true Try.f8.params.toList args.toList ds p := hA0
  rw [Try.params8] at hA hval
  obtain ⟨v0, vs0, d0, ds0, p0, q0, hargs, rfl, rfl, h0, r0⟩ := trodAll_cons hA
  obtain ⟨rfl, rfl, rfl⟩ := trodAll_nil r0
  obtain rfl : args = #[v0] := by cases args; simp_all
  obtain ⟨rfl, rfl⟩ := trodVars_none hV
  obtain ⟨A0, n0, c0, l0, rfl, hnc0, hcm0, hr0, hw0⟩ := open_Site (hval 0 31 v0 rfl rfl) h0
  clear hA0 hval0
  refine (walk W A0 n0 c0 l0 (Nat.le_trans hnc0 hcm0) hr0 hw0).mono fun e W' ⟨he, hB⟩ => ?_
  subst he
  exact ⟨_, rfl, law_post laidOut Try.underlying4 rfl (by kernel_rfl) (by kernel_rfl) hW' rfl rfl rfl hB⟩

theorem proved : Rows.FnExactStartStatesSaid :=
  OpenClaim.holds_of_wide 8 Try.f8 rfl rfl rfl rfl rfl rfl rfl ⟨rfl, rfl, rfl, rfl, rfl⟩ rfl rfl rfl rfl rfl (by kernel_rfl) Try.func8 (joined rfl rfl rfl (by kernel_rfl))
    (of_decide_eq_true (by kernel_rfl)) (by unfold Func.isWrapper; first | (rw [if_pos (by decide +kernel)]; kernel_rfl) | (rw [if_neg (by decide +kernel)]; exact ⟨rfl, rfl⟩))
    (fun os started H enc _ => lifted os started H enc)
#print axioms proved
end fnExactStartStates
end Go.Proofs.Ytmpccakgpahpoaa
