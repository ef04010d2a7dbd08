/-
  FnExactIsUnsafeAct: the law answers true at every input, and the input reads behind the call as it read before. No condition.
-/
import Derived.Test.YtnhlobjekmjagaaFrame
import Derived.Test.YtnhlobjekmjagaaFacts
import Derived.WalkKit
import Derived.WalkSpells
import Derived.WalkLawsBesides
import Derived.Deep.RegionWith
import Derived.Deep.DeepCutAuto
import Derived.Test.YtnhlobjekmjagaaOpnSBool
import Derived.Test.YtnhlobjekmjagaaUnsafe2
import Derived.Test.YtnhlobjekmjagaaBox
import Derived.Test.YtnhlobjekmjagaaOpnStr
namespace Go.Proofs.Ytnhlobjekmjagaa
open Go.ChangeShapes Go.WideShapes Go.ChangeAt Go.RowKit
namespace fnExactIsUnsafeAct
set_option linter.unusedVariables false
set_option maxHeartbeats 1000000 in
theorem walk (w : World) (A0 : Option Addr) (n0 c0 : Nat) (l0 : List (List Bool)) (hm0 : n0 ≤ maxLen) (hr0 : RdSS w 0 w.heap.size A0 n0 (rrBool l0)) (hw0 : ∀ r ∈ l0, ∀ p ∈ r, True) (x1_0 x1_1 x1_2 x1_3 x1_4 x1_5 : Int) (b1_0 : (Lit.int .i64 x1_0).wf = true) (b1_1 : (Lit.int .i64 x1_1).wf = true) (b1_2 : (Lit.int .i64 x1_2).wf = true) (b1_3 : (Lit.int .i64 x1_3).wf = true) (b1_4 : (Lit.int .i64 x1_4).wf = true) (b1_5 : (Lit.int .i64 x1_5).wf = true) (x2_0 : Int) (x2_1 : Int) (x2_2 : Bool) (x2_3 : Bool) (b2_0 : (Lit.int .i64 x2_0).wf = true) (b2_1 : (Lit.int .i64 x2_1).wf = true) :
    Calls Try.prog 3 #[.slice A0 n0 c0, .agg #[.int .i64 x1_0, .int .i64 x1_1, .int .i64 x1_2, .int .i64 x1_3, .int .i64 x1_4, .int .i64 x1_5], .agg #[.int .i64 x2_0, .int .i64 x2_1, .bool x2_2, .bool x2_3]] w fun e w' => e = .returned (.bool true) ∧ Below w.heap.size w w' := by
  by_cases hq : (n0 : Int) + (tot (rrBool l0) n0 : Nat) ≤ 1048576
  · skip
    have hn : n0 ≤ 1048576 := by omega
    have hl0 : l0.length = n0 := by have := hr0.length; rw [rrBool_len] at this; exact this
    have hrow : ∀ r ∈ l0, r.length ≤ 1048576 := fun r hr => by have := rows_small (f := rrBool) (fun k => by rw [rrBool_at, rBool_len1]) hr0.length hl0 hq r hr; omega
    have HROW := hide hrow
    clear hm0 hw0 hrow hl0
    go_enter Try.func3, Try.ntmps3
    go_wp2_with fail
    obtain ⟨W0, hW0⟩ : ∃ W0 : World, W0 = ((w.alloc (.cells #[.int .i64 x1_0, .int .i64 x1_1, .int .i64 x1_2, .int .i64 x1_3, .int .i64 x1_4, .int .i64 x1_5] 24)).alloc (.cells #[.int .i64 x2_0, .int .i64 x2_1, .bool x2_2, .bool x2_3] 26)) := ⟨_, rfl⟩
    rw [← hW0]
    have hk1 : Box W0 (w.heap.size) [.int .i64 x1_0, .int .i64 x1_1, .int .i64 x1_2, .int .i64 x1_3, .int .i64 x1_4, .int .i64 x1_5] := by rw [hW0]; exact (box_at _ _ _ _ (by simp)).alloc (by simp) _
    have hk2 : Box W0 (w.heap.size + 1) [.int .i64 x2_0, .int .i64 x2_1, .bool x2_2, .bool x2_3] := by rw [hW0]; exact box_at _ _ _ _ (by simp)
    have hB : Below w.heap.size w W0 := by rw [hW0]; exact (by repeat (first | exact Below.refl _ _ | refine Below.drew ?_ | refine Below.alloc ?_ (by simp) _))
    have hs0 : w.heap.size + 2 ≤ W0.heap.size := by rw [hW0]; simp
    clear hW0
    replace hr0 := hr0.below hB (Nat.le_refl _)
    go_wp2_with fail
    refine (szBoolSS_ok A0 n0 c0 0 w.heap.size l0 _ hq (by omega) _ hr0).mono ?_
    rintro e w' ⟨rfl, rfl⟩
    go_wp2_with fail
    go_region_held3 (fun W => W.cell? ⟨w.heap.size, 0, none⟩ = some (.int .i64 x1_0) ∧ W.cell? ⟨w.heap.size, 1, none⟩ = some (.int .i64 x1_1) ∧ W.cell? ⟨w.heap.size, 2, none⟩ = some (.int .i64 x1_2) ∧ W.cell? ⟨w.heap.size, 3, none⟩ = some (.int .i64 x1_3) ∧ W.cell? ⟨w.heap.size, 4, none⟩ = some (.int .i64 x1_4) ∧ W.cell? ⟨w.heap.size, 5, none⟩ = some (.int .i64 x1_5) ∧ W.cell? ⟨w.heap.size + 1, 0, none⟩ = some (.int .i64 x2_0) ∧ W.cell? ⟨w.heap.size + 1, 1, none⟩ = some (.int .i64 x2_1) ∧ W.cell? ⟨w.heap.size + 1, 2, none⟩ = some (.bool x2_2) ∧ W.cell? ⟨w.heap.size + 1, 3, none⟩ = some (.bool x2_3)) (exact ⟨hk1 0 _ rfl, hk1 1 _ rfl, hk1 2 _ rfl, hk1 3 _ rfl, hk1 4 _ rfl, hk1 5 _ rfl, hk2 0 _ rfl, hk2 1 _ rfl, hk2 2 _ rfl, hk2 3 _ rfl⟩) (first | (go_at_call 18; refine (toBoolSS_any A0 n0 c0 0 w.heap.size l0 hn HROW.out _ (by exact hr0) (by first | omega | (simp; omega))).mono ?_; rintro e w1 ⟨va, rfl, hoa, hb⟩; have hbb : Below W0.heap.size W0 w1 := Below.trans (by repeat (first | exact Below.refl _ _ | refine Below.drew ?_ | refine Below.alloc ?_ (by simp) _)) (Below.mono hb (by simp)); clear hb; have hs1 := hbb.size; replace hr0 := hr0.below hbb (by omega); replace hk1 := hk1.below hbb (by omega); replace hk2 := hk2.below hbb (by omega); replace hB := hB.trans (hbb.mono (by omega)); clear hbb; obtain ⟨Aa, ca, rfl, _, _, hra⟩ := hoa.rd; obtain ⟨Ha, hHa, hoa, hra⟩ : ∃ H, H ≤ w1.heap.size ∧ OwnSS w1 _ H _ _ _ _ _ ∧ RdSS w1 _ H _ _ _ := ⟨_, Nat.le_refl _, hoa, hra⟩) | (go_at_call 19; refine (toWorld_any x1_0 x1_1 x1_2 x1_3 x1_4 x1_5 _).mono ?_; rintro e w2 ⟨rfl, hb⟩; have hbb : Below w1.heap.size w1 w2 := Below.trans (by repeat (first | exact Below.refl _ _ | refine Below.drew ?_ | refine Below.alloc ?_ (by simp) _)) (Below.mono hb (by simp)); clear hb; have hs2 := hbb.size; replace hr0 := hr0.below hbb (by omega); replace hoa := hoa.below hbb (by omega); replace hra := hra.below hbb (by omega); replace hk1 := hk1.below hbb (by omega); replace hk2 := hk2.below hbb (by omega); replace hB := hB.trans (hbb.mono (by omega)); clear hbb) | (go_at_call 20; refine (toAct_any x2_0 x2_1 x2_2 x2_3 _).mono ?_; rintro e w3 ⟨rfl, hb⟩; have hbb : Below w2.heap.size w2 w3 := Below.trans (by repeat (first | exact Below.refl _ _ | refine Below.drew ?_ | refine Below.alloc ?_ (by simp) _)) (Below.mono hb (by simp)); clear hb; have hs3 := hbb.size; replace hr0 := hr0.below hbb (by omega); replace hoa := hoa.below hbb (by omega); replace hra := hra.below hbb (by omega); replace hk1 := hk1.below hbb (by omega); replace hk2 := hk2.below hbb (by omega); replace hB := hB.trans (hbb.mono (by omega)); clear hbb) | (go_at_call 17; refine (specIsUnsafeAct_any Aa n0 ca _ _ l0 (by unfold maxLen; omega) x1_0 x1_1 x1_2 x1_3 x1_4 x1_5 x2_0 x2_1 x2_2 x2_3 _ (by exact hra) (by first | omega | (simp; omega))).mono ?_; rintro e w4 ⟨rfl, hb⟩; have hbb : Below w3.heap.size w3 w4 := Below.trans (by repeat (first | exact Below.refl _ _ | refine Below.drew ?_ | refine Below.alloc ?_ (by simp) _)) (Below.mono hb (by simp)); clear hb; have hs4 := hbb.size; replace hr0 := hr0.below hbb (by omega); replace hoa := hoa.below hbb (by omega); replace hra := hra.below hbb (by omega); replace hk1 := hk1.below hbb (by omega); replace hk2 := hk2.below hbb (by omega); replace hB := hB.trans (hbb.mono (by omega)); clear hbb))
    go_wp2_with fail
    refine (toBoolSS_any A0 n0 c0 0 w.heap.size l0 hn HROW.out _ (by exact hr0) (by first | omega | (simp; omega))).mono ?_
    rintro e w5 ⟨vb, rfl, hob, hb⟩
    have hbb : Below w4.heap.size w4 w5 := Below.trans (by repeat (first | exact Below.refl _ _ | refine Below.drew ?_ | refine Below.alloc ?_ (by simp) _)) (Below.mono hb (by simp))
    clear hb
    have hs5 := hbb.size
    replace hr0 := hr0.below hbb (by omega)
    replace hoa := hoa.below hbb (by omega)
    replace hra := hra.below hbb (by omega)
    replace hk1 := hk1.below hbb (by omega)
    replace hk2 := hk2.below hbb (by omega)
    replace hB := hB.trans (hbb.mono (by omega))
    clear hbb
    obtain ⟨Ab, cb, rfl, _, _, hrb⟩ := hob.rd; obtain ⟨Hb, hHb, hob, hrb⟩ : ∃ H, H ≤ w5.heap.size ∧ OwnSS w5 _ H _ _ _ _ _ ∧ RdSS w5 _ H _ _ _ := ⟨_, Nat.le_refl _, hob, hrb⟩
    go_wp2_with fail
    go_region_held3 (fun W => W.cell? ⟨w.heap.size, 0, none⟩ = some (.int .i64 x1_0) ∧ W.cell? ⟨w.heap.size, 1, none⟩ = some (.int .i64 x1_1) ∧ W.cell? ⟨w.heap.size, 2, none⟩ = some (.int .i64 x1_2) ∧ W.cell? ⟨w.heap.size, 3, none⟩ = some (.int .i64 x1_3) ∧ W.cell? ⟨w.heap.size, 4, none⟩ = some (.int .i64 x1_4) ∧ W.cell? ⟨w.heap.size, 5, none⟩ = some (.int .i64 x1_5) ∧ W.cell? ⟨w.heap.size + 1, 0, none⟩ = some (.int .i64 x2_0) ∧ W.cell? ⟨w.heap.size + 1, 1, none⟩ = some (.int .i64 x2_1) ∧ W.cell? ⟨w.heap.size + 1, 2, none⟩ = some (.bool x2_2) ∧ W.cell? ⟨w.heap.size + 1, 3, none⟩ = some (.bool x2_3)) (exact ⟨hk1 0 _ rfl, hk1 1 _ rfl, hk1 2 _ rfl, hk1 3 _ rfl, hk1 4 _ rfl, hk1 5 _ rfl, hk2 0 _ rfl, hk2 1 _ rfl, hk2 2 _ rfl, hk2 3 _ rfl⟩) (first | (go_at_call 19; refine (toWorld_any x1_0 x1_1 x1_2 x1_3 x1_4 x1_5 _).mono ?_; rintro e w6 ⟨rfl, hb⟩; have hbb : Below w5.heap.size w5 w6 := Below.trans (by repeat (first | exact Below.refl _ _ | refine Below.drew ?_ | refine Below.alloc ?_ (by simp) _)) (Below.mono hb (by simp)); clear hb; have hs6 := hbb.size; replace hr0 := hr0.below hbb (by omega); replace hoa := hoa.below hbb (by omega); replace hra := hra.below hbb (by omega); replace hob := hob.below hbb (by omega); replace hrb := hrb.below hbb (by omega); replace hk1 := hk1.below hbb (by omega); replace hk2 := hk2.below hbb (by omega); replace hB := hB.trans (hbb.mono (by omega)); clear hbb) | (go_at_call 20; refine (toAct_any x2_0 x2_1 x2_2 x2_3 _).mono ?_; rintro e w7 ⟨rfl, hb⟩; have hbb : Below w6.heap.size w6 w7 := Below.trans (by repeat (first | exact Below.refl _ _ | refine Below.drew ?_ | refine Below.alloc ?_ (by simp) _)) (Below.mono hb (by simp)); clear hb; have hs7 := hbb.size; replace hr0 := hr0.below hbb (by omega); replace hoa := hoa.below hbb (by omega); replace hra := hra.below hbb (by omega); replace hob := hob.below hbb (by omega); replace hrb := hrb.below hbb (by omega); replace hk1 := hk1.below hbb (by omega); replace hk2 := hk2.below hbb (by omega); replace hB := hB.trans (hbb.mono (by omega)); clear hbb) | (go_at_call 21; refine (implIsUnsafeAct_any Ab n0 cb _ _ l0 (by unfold maxLen; omega) x1_0 x1_1 x1_2 x1_3 x1_4 x1_5 x2_0 x2_1 x2_2 x2_3 _ (by exact hrb) (by first | omega | (simp; omega))).mono ?_; rintro e w8 ⟨rfl, hb⟩; have hbb : Below w7.heap.size w7 w8 := Below.trans (by repeat (first | exact Below.refl _ _ | refine Below.drew ?_ | refine Below.alloc ?_ (by simp) _)) (Below.mono hb (by simp)); clear hb; have hs8 := hbb.size; replace hr0 := hr0.below hbb (by omega); replace hoa := hoa.below hbb (by omega); replace hra := hra.below hbb (by omega); replace hob := hob.below hbb (by omega); replace hrb := hrb.below hbb (by omega); replace hk1 := hk1.below hbb (by omega); replace hk2 := hk2.below hbb (by omega); replace hB := hB.trans (hbb.mono (by omega)); clear hbb))
    go_wp2_with fail
    refine (toBoolSS_any A0 n0 c0 0 w.heap.size l0 hn HROW.out _ (by exact hr0) (by first | omega | (simp; omega))).mono ?_
    rintro e w9 ⟨vz, rfl, hoz, hb⟩
    have hbb : Below w8.heap.size w8 w9 := Below.trans (by repeat (first | exact Below.refl _ _ | refine Below.drew ?_ | refine Below.alloc ?_ (by simp) _)) (Below.mono hb (by simp))
    clear hb
    have hs9 := hbb.size
    replace hr0 := hr0.below hbb (by omega)
    replace hoa := hoa.below hbb (by omega)
    replace hra := hra.below hbb (by omega)
    replace hob := hob.below hbb (by omega)
    replace hrb := hrb.below hbb (by omega)
    replace hk1 := hk1.below hbb (by omega)
    replace hk2 := hk2.below hbb (by omega)
    replace hB := hB.trans (hbb.mono (by omega))
    clear hbb
    obtain ⟨Az, cz, rfl, _, _, hrz⟩ := hoz.rd; obtain ⟨Hz, hHz, hoz, hrz⟩ : ∃ H, H ≤ w9.heap.size ∧ OwnSS w9 _ H _ _ _ _ _ ∧ RdSS w9 _ H _ _ _ := ⟨_, Nat.le_refl _, hoz, hrz⟩
    go_wp2_with fail
    refine (eqBoolSS_same Ab Az n0 cb cz _ _ _ _ l0 hn HROW.out _ hrb hrz (by omega) (by omega)).mono ?_
    rintro e w10 ⟨rfl, hb⟩
    have hbb : Below w9.heap.size w9 w10 := Below.trans (by repeat (first | exact Below.refl _ _ | refine Below.drew ?_ | refine Below.alloc ?_ (by simp) _)) (Below.mono hb (by simp))
    clear hb
    have hs10 := hbb.size
    replace hr0 := hr0.below hbb (by omega)
    replace hoa := hoa.below hbb (by omega)
    replace hra := hra.below hbb (by omega)
    replace hob := hob.below hbb (by omega)
    replace hrb := hrb.below hbb (by omega)
    replace hoz := hoz.below hbb (by omega)
    replace hrz := hrz.below hbb (by omega)
    replace hk1 := hk1.below hbb (by omega)
    replace hk2 := hk2.below hbb (by omega)
    replace hB := hB.trans (hbb.mono (by omega))
    clear hbb
    go_wp2_with fail
    go_ret
    exact ⟨rfl, hB⟩
  · clear hw0
    have HB0 : Below w.heap.size w ((w.alloc (.cells #[.int .i64 x1_0, .int .i64 x1_1, .int .i64 x1_2, .int .i64 x1_3, .int .i64 x1_4, .int .i64 x1_5] 24)).alloc (.cells #[.int .i64 x2_0, .int .i64 x2_1, .bool x2_2, .bool x2_3] 26)) := (by repeat (first | exact Below.refl _ _ | refine Below.drew ?_ | refine Below.alloc ?_ (by simp) _))
    have HR0 := hr0.below HB0 (Nat.le_refl _)
    go_enter Try.func3, Try.ntmps3
    go_wp2_with fail
    refine (szBoolSS_big A0 n0 c0 0 w.heap.size l0 _ (by omega) (by omega) (by omega) hm0 _ HR0).mono ?_
    rintro e w' ⟨rfl, rfl⟩
    go_wp2_with fail
    go_ret
    exact ⟨rfl, HB0⟩

set_option maxRecDepth 100000 in
theorem lifted (os : Os) (started : os.Started) (H : Type) (enc : TypeId × Value → H) :
    ReturnsInHanded {} Try.checked os 3 .any (Rows.fnExactIsUnsafeActSpec.pre6 enc Try.prog Try.f3 Rows.fnExactIsUnsafeActRow.domain false) (Rows.fnExactIsUnsafeActSpec.post enc Try.prog Try.f3 false true false false) := by
  refine returnsInHanded_of_change (C := Try.checked) own started (by kernel_rfl) Try.func3
    (ChangeSpec.witness6 (enc := enc) (C := Try.checked) false ⟨#[], #[.slice none 0 0, .agg #[.int .i64 0, .int .i64 0, .int .i64 0, .int .i64 0, .int .i64 0, .int .i64 0], .agg #[.int .i64 0, .int .i64 0, .bool false, .bool false]], []⟩ 8 (by kernel_rfl) (by kernel_rfl) (by kernel_rfl) (by kernel_rfl)) ?_
  intro W base args ds gs before hval0 hW hcnd _
  have hval : ∀ (j : Nat) t v, Try.f3.params[j]? = some t → args[j]? = some v → Value.okWide Try.prog W .any base t v := hval0
  have hW' := hW
  obtain ⟨p, q, hA0, hV, rfl, hfz, hnd⟩ := hW
  have hA : DataW.TrodAll enc Try.prog W 0 (fun _ => true) true Try.f3.params.toList args.toList ds p := hA0
  rw [Try.params3] at hA hval
  obtain ⟨v0, vs0, d0, ds0, p0, q0, hargs, rfl, rfl, h0, r0⟩ := trodAll_cons hA
  obtain ⟨v1, vs1, d1, ds1, p1, q1, rfl, rfl, rfl, h1, r1⟩ := trodAll_cons r0
  obtain ⟨v2, vs2, d2, ds2, p2, q2, rfl, rfl, rfl, h2, r2⟩ := trodAll_cons r1
  obtain ⟨rfl, rfl, rfl⟩ := trodAll_nil r2
  obtain rfl : args = #[v0, v1, v2] := by cases args; simp_all
  obtain ⟨rfl, rfl⟩ := trodVars_none hV
  obtain ⟨A0, n0, c0, l0, rfl, hnc0, hcm0, hr0, hw0⟩ := open_BoolSS (hval 0 22 v0 rfl rfl) h0
  obtain ⟨l1, hl1, rfl, hw1⟩ := open_ints_struct (k := .i64) Try.underlying24 (by kernel_rfl) (by kernel_rfl) (hval 1 24 v1 rfl rfl) h1
  obtain ⟨x1_0, x1_1, x1_2, x1_3, x1_4, x1_5, rfl⟩ := list6 (show l1.length = 6 from hl1)
  obtain ⟨l2, hl2, rfl, hw2⟩ := open_cells_struct Try.underlying26 (by kernel_rfl) (by kernel_rfl) (hval 2 26 v2 rfl rfl) h2
  obtain ⟨y2_0, y2_1, y2_2, y2_3, rfl⟩ := listv4 (show l2.length = 4 from hl2)
  obtain ⟨z2_0, _, _, q2_0, t2_0⟩ := hw2 0 _ rfl
  obtain rfl := Option.some.inj (show some y2_0 = some z2_0 from q2_0)
  obtain ⟨x2_0, e2_0, _, b2_0⟩ := DataW.trod_int (by kernel_rfl) t2_0
  obtain rfl : y2_0 = .int .i64 x2_0 := by simpa using e2_0
  obtain ⟨z2_1, _, _, q2_1, t2_1⟩ := hw2 1 _ rfl
  obtain rfl := Option.some.inj (show some y2_1 = some z2_1 from q2_1)
  obtain ⟨x2_1, e2_1, _, b2_1⟩ := DataW.trod_int (by kernel_rfl) t2_1
  obtain rfl : y2_1 = .int .i64 x2_1 := by simpa using e2_1
  obtain ⟨z2_2, _, _, q2_2, t2_2⟩ := hw2 2 _ rfl
  obtain rfl := Option.some.inj (show some y2_2 = some z2_2 from q2_2)
  obtain ⟨x2_2, e2_2, _⟩ := DataW.trod_bool (by kernel_rfl) t2_2
  obtain rfl : y2_2 = .bool x2_2 := by simpa using e2_2
  obtain ⟨z2_3, _, _, q2_3, t2_3⟩ := hw2 3 _ rfl
  obtain rfl := Option.some.inj (show some y2_3 = some z2_3 from q2_3)
  obtain ⟨x2_3, e2_3, _⟩ := DataW.trod_bool (by kernel_rfl) t2_3
  obtain rfl : y2_3 = .bool x2_3 := by simpa using e2_3
  clear hA0 hval0
  refine (walk W A0 n0 c0 l0 (Nat.le_trans hnc0 hcm0) hr0 hw0 x1_0 x1_1 x1_2 x1_3 x1_4 x1_5 (hw1 x1_0 (by simp)) (hw1 x1_1 (by simp)) (hw1 x1_2 (by simp)) (hw1 x1_3 (by simp)) (hw1 x1_4 (by simp)) (hw1 x1_5 (by simp)) x2_0 x2_1 x2_2 x2_3 b2_0 b2_1).mono fun e W' ⟨he, hB⟩ => ?_
  subst he
  exact ⟨_, rfl, law_post laidOut Try.underlying4 rfl (by kernel_rfl) (by kernel_rfl) hW' rfl rfl rfl hB⟩

theorem proved : Rows.FnExactIsUnsafeActSaid :=
  OpenClaim.holds_of_wide 3 Try.f3 rfl rfl rfl rfl rfl rfl rfl ⟨rfl, rfl, rfl, rfl, rfl⟩ rfl rfl rfl rfl rfl (by kernel_rfl) Try.func3 (joined rfl rfl rfl (by kernel_rfl))
    (of_decide_eq_true (by kernel_rfl)) (by unfold Func.isWrapper; first | (rw [if_pos (by decide +kernel)]; kernel_rfl) | (rw [if_neg (by decide +kernel)]; exact ⟨rfl, rfl⟩))
    (fun os started H enc _ => lifted os started H enc)
#print axioms proved
end fnExactIsUnsafeAct
end Go.Proofs.Ytnhlobjekmjagaa
