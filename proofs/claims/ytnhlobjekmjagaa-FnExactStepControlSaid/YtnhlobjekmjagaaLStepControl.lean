/-
  FnExactStepControl: the law answers true at every input, and the input reads behind the call as it read before. No condition.
-/
import Derived.Test.YtnhlobjekmjagaaFrame
import Derived.Test.YtnhlobjekmjagaaFacts
import Derived.WalkKit
import Derived.WalkSpells
import Derived.WalkLawsBesides
import Derived.Deep.RegionWith
import Derived.Deep.DeepCutAuto
import Derived.Test.YtnhlobjekmjagaaOpnSBool
import Derived.Test.YtnhlobjekmjagaaStructs
import Derived.Test.YtnhlobjekmjagaaStepC
import Derived.Test.YtnhlobjekmjagaaBox
import Derived.Test.YtnhlobjekmjagaaBoxNb
import Derived.Test.YtnhlobjekmjagaaNeed
namespace Go.Proofs.Ytnhlobjekmjagaa
open Go.ChangeShapes Go.WideShapes Go.ChangeAt Go.RowKit
namespace fnExactStepControl
set_option linter.unusedVariables false
set_option maxRecDepth 100000 in
set_option maxHeartbeats 4000000 in
theorem walk (w : World) (A0 : Option Addr) (n0 c0 : Nat) (l0 : List (List Bool)) (hm0 : n0 ≤ maxLen) (hr0 : RdSS w 0 w.heap.size A0 n0 (rrBool l0)) (hw0 : ∀ r ∈ l0, ∀ p ∈ r, True) (x1_0 x1_1 : Int) (b1_0 : (Lit.int .i64 x1_0).wf = true) (b1_1 : (Lit.int .i64 x1_1).wf = true) (x2 : Bool) (x3_0 x3_1 x3_2 x3_3 x3_4 : Int) (b3_0 : (Lit.int .i64 x3_0).wf = true) (b3_1 : (Lit.int .i64 x3_1).wf = true) (b3_2 : (Lit.int .i64 x3_2).wf = true) (b3_3 : (Lit.int .i64 x3_3).wf = true) (b3_4 : (Lit.int .i64 x3_4).wf = true) :
    Calls Try.prog 6 #[.slice A0 n0 c0, .agg #[.int .i64 x1_0, .int .i64 x1_1], .bool x2, .agg #[.int .i64 x3_0, .int .i64 x3_1, .int .i64 x3_2, .int .i64 x3_3, .int .i64 x3_4]] w fun e w' => e = .returned (.bool true) ∧ Below w.heap.size w w' := by
  by_cases hq : (n0 : Int) + (tot (rrBool l0) n0 : Nat) ≤ 1048576
  · skip
    have hn : n0 ≤ 1048576 := by omega
    have hl0 : l0.length = n0 := by have := hr0.length; rw [rrBool_len] at this; exact this
    have hrow : ∀ r ∈ l0, r.length ≤ 1048576 := fun r hr => by have := rows_small (f := rrBool) (fun k => by rw [rrBool_at, rBool_len1]) hr0.length hl0 hq r hr; omega
    have HROW := hide hrow
    clear hm0 hw0 hrow hl0
    go_enter Try.func6, Try.ntmps6
    go_wp2_with fail
    obtain ⟨W0, hW0⟩ : ∃ W0 : World, W0 = ((w.alloc (.cells #[.int .i64 x1_0, .int .i64 x1_1] 49)).alloc (.cells #[.int .i64 x3_0, .int .i64 x3_1, .int .i64 x3_2, .int .i64 x3_3, .int .i64 x3_4] 51)) := ⟨_, rfl⟩
    rw [← hW0]
    have hk1 : Box W0 (w.heap.size) [.int .i64 x1_0, .int .i64 x1_1] := by rw [hW0]; exact (box_at _ _ _ _ (by simp)).alloc (by first | (simp; done) | (simp; omega)) _
    have hk3 : Box W0 (w.heap.size + 1) [.int .i64 x3_0, .int .i64 x3_1, .int .i64 x3_2, .int .i64 x3_3, .int .i64 x3_4] := by rw [hW0]; exact box_at _ _ _ _ (by simp)
    have hB : Below w.heap.size w W0 := by rw [hW0]; exact (by repeat (first | exact Below.refl _ _ | refine Below.drew ?_ | refine Below.alloc ?_ (by first | (simp; done) | (simp; omega)) _))
    have hs0 : w.heap.size + 2 ≤ W0.heap.size := by rw [hW0]; first | (simp; done) | (simp; omega)
    clear hW0
    replace hr0 := hr0.below hB (Nat.le_refl _)
    go_wp2_with fail
    refine (szBoolSS_ok A0 n0 c0 0 w.heap.size l0 _ hq (by omega) _ hr0).mono ?_
    rintro e w' ⟨rfl, rfl⟩
    go_upto_region 5 with fail
    go_cut [10, 11] (fun s10 s11 wx => s11 = .int .i64 (codeC l0 x1_0 x1_1 [(x3_0, x3_1, x3_2, x3_3, x3_4)]) ∧ ∃ g : Nat, s10 = .pointer (some ⟨g, 0, none⟩) ∧ Box wx g [.int .i64 (zv (codeC l0 x1_0 x1_1 [(x3_0, x3_1, x3_2, x3_3, x3_4)]) (stA l0 x1_0 x1_1 x2 x3_0 x3_1 x3_2 x3_3)), .int .i64 (zv (codeC l0 x1_0 x1_1 [(x3_0, x3_1, x3_2, x3_3, x3_4)]) x3_1), .int .i64 (zv (codeC l0 x1_0 x1_1 [(x3_0, x3_1, x3_2, x3_3, x3_4)]) x3_2), .int .i64 (zv (codeC l0 x1_0 x1_1 [(x3_0, x3_1, x3_2, x3_3, x3_4)]) x3_3), .int .i64 (zv (codeC l0 x1_0 x1_1 [(x3_0, x3_1, x3_2, x3_3, x3_4)]) (stM l0 x1_0 x1_1 x2 x3_0 x3_1 x3_2 x3_3))] ∧ W0.heap.size ≤ g ∧ g < wx.heap.size ∧ Below W0.heap.size W0 wx)
    case first =>
      have hC : Below W0.heap.size W0 W0 := Below.refl _ _
      have HD : Hid ((World.drew W0).cell? ⟨w.heap.size, 0, none⟩ = some (.int .i64 x1_0) ∧ (World.drew W0).cell? ⟨w.heap.size, 1, none⟩ = some (.int .i64 x1_1) ∧ (World.drew W0).cell? ⟨w.heap.size + 1, 0, none⟩ = some (.int .i64 x3_0) ∧ (World.drew W0).cell? ⟨w.heap.size + 1, 1, none⟩ = some (.int .i64 x3_1) ∧ (World.drew W0).cell? ⟨w.heap.size + 1, 2, none⟩ = some (.int .i64 x3_2) ∧ (World.drew W0).cell? ⟨w.heap.size + 1, 3, none⟩ = some (.int .i64 x3_3) ∧ (World.drew W0).cell? ⟨w.heap.size + 1, 4, none⟩ = some (.int .i64 x3_4)) := hide ⟨hk1 0 _ rfl, hk1 1 _ rfl, hk3 0 _ rfl, hk3 1 _ rfl, hk3 2 _ rfl, hk3 3 _ rfl, hk3 4 _ rfl⟩
      have HDA : Hid (∀ o : Obj, (World.drew (World.alloc W0 o)).cell? ⟨w.heap.size, 0, none⟩ = some (.int .i64 x1_0) ∧ (World.drew (World.alloc W0 o)).cell? ⟨w.heap.size, 1, none⟩ = some (.int .i64 x1_1) ∧ (World.drew (World.alloc W0 o)).cell? ⟨w.heap.size + 1, 0, none⟩ = some (.int .i64 x3_0) ∧ (World.drew (World.alloc W0 o)).cell? ⟨w.heap.size + 1, 1, none⟩ = some (.int .i64 x3_1) ∧ (World.drew (World.alloc W0 o)).cell? ⟨w.heap.size + 1, 2, none⟩ = some (.int .i64 x3_2) ∧ (World.drew (World.alloc W0 o)).cell? ⟨w.heap.size + 1, 3, none⟩ = some (.int .i64 x3_3) ∧ (World.drew (World.alloc W0 o)).cell? ⟨w.heap.size + 1, 4, none⟩ = some (.int .i64 x3_4)) := hide (fun o => ⟨Box.moreAt (W := W0) hk1 o 0 _ rfl, Box.moreAt (W := W0) hk1 o 1 _ rfl, Box.moreAt (W := W0) hk3 o 0 _ rfl, Box.moreAt (W := W0) hk3 o 1 _ rfl, Box.moreAt (W := W0) hk3 o 2 _ rfl, Box.moreAt (W := W0) hk3 o 3 _ rfl, Box.moreAt (W := W0) hk3 o 4 _ rfl⟩)
      go_region_held3 (fun W => W.cell? ⟨w.heap.size, 0, none⟩ = some (.int .i64 x1_0) ∧ W.cell? ⟨w.heap.size, 1, none⟩ = some (.int .i64 x1_1) ∧ W.cell? ⟨w.heap.size + 1, 0, none⟩ = some (.int .i64 x3_0) ∧ W.cell? ⟨w.heap.size + 1, 1, none⟩ = some (.int .i64 x3_1) ∧ W.cell? ⟨w.heap.size + 1, 2, none⟩ = some (.int .i64 x3_2) ∧ W.cell? ⟨w.heap.size + 1, 3, none⟩ = some (.int .i64 x3_3) ∧ W.cell? ⟨w.heap.size + 1, 4, none⟩ = some (.int .i64 x3_4)) (first | (with_reducible exact HS.out) | (with_reducible exact HD.out) | (with_reducible exact HSA.out _) | (with_reducible exact HDA.out _) | ((with_reducible refine ⟨?_, ?_, ?_, ?_, ?_, ?_, ?_⟩) <;> (repeat (with_reducible refine (World.cell?_setCell_far _ _ _ _ (by first | (simp; done) | (simp; omega))).trans ?_)) <;> first | (with_reducible exact HS.out.1) | (with_reducible exact HS.out.2.1) | (with_reducible exact HS.out.2.2.1) | (with_reducible exact HS.out.2.2.2.1) | (with_reducible exact HS.out.2.2.2.2.1) | (with_reducible exact HS.out.2.2.2.2.2.1) | (with_reducible exact HS.out.2.2.2.2.2.2) | (with_reducible exact (HSA.out _).1) | (with_reducible exact (HSA.out _).2.1) | (with_reducible exact (HSA.out _).2.2.1) | (with_reducible exact (HSA.out _).2.2.2.1) | (with_reducible exact (HSA.out _).2.2.2.2.1) | (with_reducible exact (HSA.out _).2.2.2.2.2.1) | (with_reducible exact (HSA.out _).2.2.2.2.2.2) | fail) | fail) (first | (go_at_call 18; (first | (with_reducible refine (toBoolSS_any A0 n0 c0 0 w.heap.size l0 hn HROW.out _ hr0.drew (le_drew (by omega))).mono ?_) | (with_reducible refine (toBoolSS_any A0 n0 c0 0 w.heap.size l0 hn HROW.out _ (RdSS.lay hr0 (by omega) _).drew (le_drew (le_lay (by omega)))).mono ?_)); rintro e w1 ⟨va, rfl, hoa, hb⟩; have hbb : Below W0.heap.size W0 w1 := Below.trans (by repeat (first | exact Below.refl _ _ | refine Below.drew ?_ | refine Below.alloc ?_ (by first | (simp; done) | (simp; omega)) _)) (Below.mono hb (by simp)); (try (replace hkg := Box.below hkg hbb hkl; replace hkz := Fz.below hkz hbb hkl; replace hkl := Nat.lt_of_lt_of_le hkl hbb.size)); (try (with_reducible have hkn := box_nd hb; obtain ⟨hkg, hkz, hkl⟩ := hkn)); clear hb; have hs1 := hbb.size; replace hr0 := hr0.below hbb (by omega); replace hk1 := hk1.below hbb (by omega); replace hk3 := hk3.below hbb (by omega); replace hB := hB.trans (hbb.mono (by omega)); replace hC := hC.trans (hbb.mono (by omega)); clear hbb; obtain ⟨Aa, ca, rfl, _, _, hra⟩ := hoa.rd; obtain ⟨Ha, hHa, hoa, hra⟩ : ∃ H, H ≤ w1.heap.size ∧ OwnSS w1 _ H _ _ _ _ _ ∧ RdSS w1 _ H _ _ _ := ⟨_, Nat.le_refl _, hoa, hra⟩; have HS : Hid (w1.cell? ⟨w.heap.size, 0, none⟩ = some (.int .i64 x1_0) ∧ w1.cell? ⟨w.heap.size, 1, none⟩ = some (.int .i64 x1_1) ∧ w1.cell? ⟨w.heap.size + 1, 0, none⟩ = some (.int .i64 x3_0) ∧ w1.cell? ⟨w.heap.size + 1, 1, none⟩ = some (.int .i64 x3_1) ∧ w1.cell? ⟨w.heap.size + 1, 2, none⟩ = some (.int .i64 x3_2) ∧ w1.cell? ⟨w.heap.size + 1, 3, none⟩ = some (.int .i64 x3_3) ∧ w1.cell? ⟨w.heap.size + 1, 4, none⟩ = some (.int .i64 x3_4)) := hide ⟨hk1 0 _ rfl, hk1 1 _ rfl, hk3 0 _ rfl, hk3 1 _ rfl, hk3 2 _ rfl, hk3 3 _ rfl, hk3 4 _ rfl⟩; have HSA : Hid (∀ o : Obj, (World.alloc w1 o).cell? ⟨w.heap.size, 0, none⟩ = some (.int .i64 x1_0) ∧ (World.alloc w1 o).cell? ⟨w.heap.size, 1, none⟩ = some (.int .i64 x1_1) ∧ (World.alloc w1 o).cell? ⟨w.heap.size + 1, 0, none⟩ = some (.int .i64 x3_0) ∧ (World.alloc w1 o).cell? ⟨w.heap.size + 1, 1, none⟩ = some (.int .i64 x3_1) ∧ (World.alloc w1 o).cell? ⟨w.heap.size + 1, 2, none⟩ = some (.int .i64 x3_2) ∧ (World.alloc w1 o).cell? ⟨w.heap.size + 1, 3, none⟩ = some (.int .i64 x3_3) ∧ (World.alloc w1 o).cell? ⟨w.heap.size + 1, 4, none⟩ = some (.int .i64 x3_4)) := hide (fun o => ⟨Box.moreAt (W := w1) hk1 o 0 _ rfl, Box.moreAt (W := w1) hk1 o 1 _ rfl, Box.moreAt (W := w1) hk3 o 0 _ rfl, Box.moreAt (W := w1) hk3 o 1 _ rfl, Box.moreAt (W := w1) hk3 o 2 _ rfl, Box.moreAt (W := w1) hk3 o 3 _ rfl, Box.moreAt (W := w1) hk3 o 4 _ rfl⟩)) | (go_at_call 33; (with_reducible refine (toRules_any x1_0 x1_1 _).mono ?_); rintro e w2 ⟨rfl, hb⟩; have hbb : Below w1.heap.size w1 w2 := Below.trans (by repeat (first | exact Below.refl _ _ | refine Below.drew ?_ | refine Below.alloc ?_ (by first | (simp; done) | (simp; omega)) _)) (Below.mono hb (by simp)); (try (replace hkg := Box.below hkg hbb hkl; replace hkz := Fz.below hkz hbb hkl; replace hkl := Nat.lt_of_lt_of_le hkl hbb.size)); (try (with_reducible have hkn := box_nb hb; obtain ⟨hkg, hkz, hkl⟩ := hkn)); clear hb; have hs2 := hbb.size; replace hr0 := hr0.below hbb (by omega); replace hoa := hoa.below hbb (by omega); replace hra := hra.below hbb (by omega); replace hk1 := hk1.below hbb (by omega); replace hk3 := hk3.below hbb (by omega); replace hB := hB.trans (hbb.mono (by omega)); replace hC := hC.trans (hbb.mono (by omega)); clear hbb; have HS : Hid (w2.cell? ⟨w.heap.size, 0, none⟩ = some (.int .i64 x1_0) ∧ w2.cell? ⟨w.heap.size, 1, none⟩ = some (.int .i64 x1_1) ∧ w2.cell? ⟨w.heap.size + 1, 0, none⟩ = some (.int .i64 x3_0) ∧ w2.cell? ⟨w.heap.size + 1, 1, none⟩ = some (.int .i64 x3_1) ∧ w2.cell? ⟨w.heap.size + 1, 2, none⟩ = some (.int .i64 x3_2) ∧ w2.cell? ⟨w.heap.size + 1, 3, none⟩ = some (.int .i64 x3_3) ∧ w2.cell? ⟨w.heap.size + 1, 4, none⟩ = some (.int .i64 x3_4)) := hide ⟨hk1 0 _ rfl, hk1 1 _ rfl, hk3 0 _ rfl, hk3 1 _ rfl, hk3 2 _ rfl, hk3 3 _ rfl, hk3 4 _ rfl⟩; have HSA : Hid (∀ o : Obj, (World.alloc w2 o).cell? ⟨w.heap.size, 0, none⟩ = some (.int .i64 x1_0) ∧ (World.alloc w2 o).cell? ⟨w.heap.size, 1, none⟩ = some (.int .i64 x1_1) ∧ (World.alloc w2 o).cell? ⟨w.heap.size + 1, 0, none⟩ = some (.int .i64 x3_0) ∧ (World.alloc w2 o).cell? ⟨w.heap.size + 1, 1, none⟩ = some (.int .i64 x3_1) ∧ (World.alloc w2 o).cell? ⟨w.heap.size + 1, 2, none⟩ = some (.int .i64 x3_2) ∧ (World.alloc w2 o).cell? ⟨w.heap.size + 1, 3, none⟩ = some (.int .i64 x3_3) ∧ (World.alloc w2 o).cell? ⟨w.heap.size + 1, 4, none⟩ = some (.int .i64 x3_4)) := hide (fun o => ⟨Box.moreAt (W := w2) hk1 o 0 _ rfl, Box.moreAt (W := w2) hk1 o 1 _ rfl, Box.moreAt (W := w2) hk3 o 0 _ rfl, Box.moreAt (W := w2) hk3 o 1 _ rfl, Box.moreAt (W := w2) hk3 o 2 _ rfl, Box.moreAt (W := w2) hk3 o 3 _ rfl, Box.moreAt (W := w2) hk3 o 4 _ rfl⟩)) | (go_at_call 34; (with_reducible refine (toControl_any x3_0 x3_1 x3_2 x3_3 x3_4 _).mono ?_); rintro e w3 ⟨rfl, hb⟩; have hbb : Below w2.heap.size w2 w3 := Below.trans (by repeat (first | exact Below.refl _ _ | refine Below.drew ?_ | refine Below.alloc ?_ (by first | (simp; done) | (simp; omega)) _)) (Below.mono hb (by simp)); (try (replace hkg := Box.below hkg hbb hkl; replace hkz := Fz.below hkz hbb hkl; replace hkl := Nat.lt_of_lt_of_le hkl hbb.size)); (try (with_reducible have hkn := box_nb hb; obtain ⟨hkg, hkz, hkl⟩ := hkn)); clear hb; have hs3 := hbb.size; replace hr0 := hr0.below hbb (by omega); replace hoa := hoa.below hbb (by omega); replace hra := hra.below hbb (by omega); replace hk1 := hk1.below hbb (by omega); replace hk3 := hk3.below hbb (by omega); replace hB := hB.trans (hbb.mono (by omega)); replace hC := hC.trans (hbb.mono (by omega)); clear hbb; have HS : Hid (w3.cell? ⟨w.heap.size, 0, none⟩ = some (.int .i64 x1_0) ∧ w3.cell? ⟨w.heap.size, 1, none⟩ = some (.int .i64 x1_1) ∧ w3.cell? ⟨w.heap.size + 1, 0, none⟩ = some (.int .i64 x3_0) ∧ w3.cell? ⟨w.heap.size + 1, 1, none⟩ = some (.int .i64 x3_1) ∧ w3.cell? ⟨w.heap.size + 1, 2, none⟩ = some (.int .i64 x3_2) ∧ w3.cell? ⟨w.heap.size + 1, 3, none⟩ = some (.int .i64 x3_3) ∧ w3.cell? ⟨w.heap.size + 1, 4, none⟩ = some (.int .i64 x3_4)) := hide ⟨hk1 0 _ rfl, hk1 1 _ rfl, hk3 0 _ rfl, hk3 1 _ rfl, hk3 2 _ rfl, hk3 3 _ rfl, hk3 4 _ rfl⟩; have HSA : Hid (∀ o : Obj, (World.alloc w3 o).cell? ⟨w.heap.size, 0, none⟩ = some (.int .i64 x1_0) ∧ (World.alloc w3 o).cell? ⟨w.heap.size, 1, none⟩ = some (.int .i64 x1_1) ∧ (World.alloc w3 o).cell? ⟨w.heap.size + 1, 0, none⟩ = some (.int .i64 x3_0) ∧ (World.alloc w3 o).cell? ⟨w.heap.size + 1, 1, none⟩ = some (.int .i64 x3_1) ∧ (World.alloc w3 o).cell? ⟨w.heap.size + 1, 2, none⟩ = some (.int .i64 x3_2) ∧ (World.alloc w3 o).cell? ⟨w.heap.size + 1, 3, none⟩ = some (.int .i64 x3_3) ∧ (World.alloc w3 o).cell? ⟨w.heap.size + 1, 4, none⟩ = some (.int .i64 x3_4)) := hide (fun o => ⟨Box.moreAt (W := w3) hk1 o 0 _ rfl, Box.moreAt (W := w3) hk1 o 1 _ rfl, Box.moreAt (W := w3) hk3 o 0 _ rfl, Box.moreAt (W := w3) hk3 o 1 _ rfl, Box.moreAt (W := w3) hk3 o 2 _ rfl, Box.moreAt (W := w3) hk3 o 3 _ rfl, Box.moreAt (W := w3) hk3 o 4 _ rfl⟩)) | (go_at_call 32; (first | (with_reducible refine (specStepControl_any Aa n0 ca _ _ l0 (by unfold maxLen; omega) x1_0 x1_1 x2 x3_0 x3_1 x3_2 x3_3 x3_4 _ hra (by omega)).mono ?_) | (with_reducible refine (specStepControl_any Aa n0 ca _ _ l0 (by unfold maxLen; omega) x1_0 x1_1 x2 x3_0 x3_1 x3_2 x3_3 x3_4 _ (RdSS.lay hra (by omega) _) (le_lay (by omega))).mono ?_)); rintro e w4 ⟨rfl, hb⟩; have hbb : Below w3.heap.size w3 w4 := Below.trans (by repeat (first | exact Below.refl _ _ | refine Below.drew ?_ | refine Below.alloc ?_ (by first | (simp; done) | (simp; omega)) _)) (Below.mono hb (by simp)); (try (replace hkg := Box.below hkg hbb hkl; replace hkz := Fz.below hkz hbb hkl; replace hkl := Nat.lt_of_lt_of_le hkl hbb.size)); (try (with_reducible have hkn := box_nb hb; obtain ⟨hkg, hkz, hkl⟩ := hkn)); clear hb; have hs4 := hbb.size; replace hr0 := hr0.below hbb (by omega); replace hoa := hoa.below hbb (by omega); replace hra := hra.below hbb (by omega); replace hk1 := hk1.below hbb (by omega); replace hk3 := hk3.below hbb (by omega); replace hB := hB.trans (hbb.mono (by omega)); replace hC := hC.trans (hbb.mono (by omega)); clear hbb; have HS : Hid (w4.cell? ⟨w.heap.size, 0, none⟩ = some (.int .i64 x1_0) ∧ w4.cell? ⟨w.heap.size, 1, none⟩ = some (.int .i64 x1_1) ∧ w4.cell? ⟨w.heap.size + 1, 0, none⟩ = some (.int .i64 x3_0) ∧ w4.cell? ⟨w.heap.size + 1, 1, none⟩ = some (.int .i64 x3_1) ∧ w4.cell? ⟨w.heap.size + 1, 2, none⟩ = some (.int .i64 x3_2) ∧ w4.cell? ⟨w.heap.size + 1, 3, none⟩ = some (.int .i64 x3_3) ∧ w4.cell? ⟨w.heap.size + 1, 4, none⟩ = some (.int .i64 x3_4)) := hide ⟨hk1 0 _ rfl, hk1 1 _ rfl, hk3 0 _ rfl, hk3 1 _ rfl, hk3 2 _ rfl, hk3 3 _ rfl, hk3 4 _ rfl⟩; have HSA : Hid (∀ o : Obj, (World.alloc w4 o).cell? ⟨w.heap.size, 0, none⟩ = some (.int .i64 x1_0) ∧ (World.alloc w4 o).cell? ⟨w.heap.size, 1, none⟩ = some (.int .i64 x1_1) ∧ (World.alloc w4 o).cell? ⟨w.heap.size + 1, 0, none⟩ = some (.int .i64 x3_0) ∧ (World.alloc w4 o).cell? ⟨w.heap.size + 1, 1, none⟩ = some (.int .i64 x3_1) ∧ (World.alloc w4 o).cell? ⟨w.heap.size + 1, 2, none⟩ = some (.int .i64 x3_2) ∧ (World.alloc w4 o).cell? ⟨w.heap.size + 1, 3, none⟩ = some (.int .i64 x3_3) ∧ (World.alloc w4 o).cell? ⟨w.heap.size + 1, 4, none⟩ = some (.int .i64 x3_4)) := hide (fun o => ⟨Box.moreAt (W := w4) hk1 o 0 _ rfl, Box.moreAt (W := w4) hk1 o 1 _ rfl, Box.moreAt (W := w4) hk3 o 0 _ rfl, Box.moreAt (W := w4) hk3 o 1 _ rfl, Box.moreAt (W := w4) hk3 o 2 _ rfl, Box.moreAt (W := w4) hk3 o 3 _ rfl, Box.moreAt (W := w4) hk3 o 4 _ rfl⟩); (try (have lg0 := hkg 0 _ rfl; have lz0 := hkz 0; have lg1 := hkg 1 _ rfl; have lz1 := hkz 1; have lg2 := hkg 2 _ rfl; have lz2 := hkz 2; have lg3 := hkg 3 _ rfl; have lz3 := hkz 3; have lg4 := hkg 4 _ rfl; have lz4 := hkz 4))))
      all_goals (go_wp2_with fail; go_meet)
      all_goals (with_reducible refine ⟨rfl, ?_⟩)
      all_goals first | (with_reducible exact fin5 hkg (by simp) (by omega) hkl hC) | (with_reducible exact fin5n (by omega) hC)
    case rest =>
      obtain ⟨rfl, ga, rfl, hga, hgla, hgua, hC⟩ := hcut
      rename World => w5
      have hs5 := hC.size
      replace hr0 := hr0.below hC (by omega)
      replace hk1 := hk1.below hC (by omega)
      replace hk3 := hk3.below hC (by omega)
      replace hB := hB.trans (hC.mono (by omega))
      clear hC
      go_wp2_with fail
      refine (toBoolSS_any A0 n0 c0 0 w.heap.size l0 hn HROW.out _ (by exact hr0) (by first | omega | (simp; omega))).mono ?_
      rintro e w6 ⟨vb, rfl, hob, hb⟩
      have hbb : Below w5.heap.size w5 w6 := Below.trans (by repeat (first | exact Below.refl _ _ | refine Below.drew ?_ | refine Below.alloc ?_ (by first | (simp; done) | (simp; omega)) _)) (Below.mono hb (by simp))
      clear hb
      have hs6 := hbb.size
      replace hr0 := hr0.below hbb (by omega)
      replace hk1 := hk1.below hbb (by omega)
      replace hk3 := hk3.below hbb (by omega)
      replace hga := hga.below hbb (by omega)
      replace hB := hB.trans (hbb.mono (by omega))
      clear hbb
      obtain ⟨Ab, cb, rfl, _, _, hrb⟩ := hob.rd; obtain ⟨Hb, hHb, hob, hrb⟩ : ∃ H, H ≤ w6.heap.size ∧ OwnSS w6 _ H _ _ _ _ _ ∧ RdSS w6 _ H _ _ _ := ⟨_, Nat.le_refl _, hob, hrb⟩
      go_upto_region 7 with fail
      go_cut [13, 14] (fun s13 s14 wx => s14 = .int .i64 (codeC l0 x1_0 x1_1 [(x3_0, x3_1, x3_2, x3_3, x3_4)]) ∧ ∃ g : Nat, s13 = .pointer (some ⟨g, 0, none⟩) ∧ Box wx g [.int .i64 (zv (codeC l0 x1_0 x1_1 [(x3_0, x3_1, x3_2, x3_3, x3_4)]) (stA l0 x1_0 x1_1 x2 x3_0 x3_1 x3_2 x3_3)), .int .i64 (zv (codeC l0 x1_0 x1_1 [(x3_0, x3_1, x3_2, x3_3, x3_4)]) x3_1), .int .i64 (zv (codeC l0 x1_0 x1_1 [(x3_0, x3_1, x3_2, x3_3, x3_4)]) x3_2), .int .i64 (zv (codeC l0 x1_0 x1_1 [(x3_0, x3_1, x3_2, x3_3, x3_4)]) x3_3), .int .i64 (zv (codeC l0 x1_0 x1_1 [(x3_0, x3_1, x3_2, x3_3, x3_4)]) (stM l0 x1_0 x1_1 x2 x3_0 x3_1 x3_2 x3_3))] ∧ w6.heap.size ≤ g ∧ g < wx.heap.size ∧ Below w6.heap.size w6 wx)
      case first =>
        have hC : Below w6.heap.size w6 w6 := Below.refl _ _
        have HD : Hid ((World.drew w6).cell? ⟨w.heap.size, 0, none⟩ = some (.int .i64 x1_0) ∧ (World.drew w6).cell? ⟨w.heap.size, 1, none⟩ = some (.int .i64 x1_1) ∧ (World.drew w6).cell? ⟨w.heap.size + 1, 0, none⟩ = some (.int .i64 x3_0) ∧ (World.drew w6).cell? ⟨w.heap.size + 1, 1, none⟩ = some (.int .i64 x3_1) ∧ (World.drew w6).cell? ⟨w.heap.size + 1, 2, none⟩ = some (.int .i64 x3_2) ∧ (World.drew w6).cell? ⟨w.heap.size + 1, 3, none⟩ = some (.int .i64 x3_3) ∧ (World.drew w6).cell? ⟨w.heap.size + 1, 4, none⟩ = some (.int .i64 x3_4)) := hide ⟨hk1 0 _ rfl, hk1 1 _ rfl, hk3 0 _ rfl, hk3 1 _ rfl, hk3 2 _ rfl, hk3 3 _ rfl, hk3 4 _ rfl⟩
        have HDA : Hid (∀ o : Obj, (World.drew (World.alloc w6 o)).cell? ⟨w.heap.size, 0, none⟩ = some (.int .i64 x1_0) ∧ (World.drew (World.alloc w6 o)).cell? ⟨w.heap.size, 1, none⟩ = some (.int .i64 x1_1) ∧ (World.drew (World.alloc w6 o)).cell? ⟨w.heap.size + 1, 0, none⟩ = some (.int .i64 x3_0) ∧ (World.drew (World.alloc w6 o)).cell? ⟨w.heap.size + 1, 1, none⟩ = some (.int .i64 x3_1) ∧ (World.drew (World.alloc w6 o)).cell? ⟨w.heap.size + 1, 2, none⟩ = some (.int .i64 x3_2) ∧ (World.drew (World.alloc w6 o)).cell? ⟨w.heap.size + 1, 3, none⟩ = some (.int .i64 x3_3) ∧ (World.drew (World.alloc w6 o)).cell? ⟨w.heap.size + 1, 4, none⟩ = some (.int .i64 x3_4)) := hide (fun o => ⟨Box.moreAt (W := w6) hk1 o 0 _ rfl, Box.moreAt (W := w6) hk1 o 1 _ rfl, Box.moreAt (W := w6) hk3 o 0 _ rfl, Box.moreAt (W := w6) hk3 o 1 _ rfl, Box.moreAt (W := w6) hk3 o 2 _ rfl, Box.moreAt (W := w6) hk3 o 3 _ rfl, Box.moreAt (W := w6) hk3 o 4 _ rfl⟩)
        go_region_held3 (fun W => W.cell? ⟨w.heap.size, 0, none⟩ = some (.int .i64 x1_0) ∧ W.cell? ⟨w.heap.size, 1, none⟩ = some (.int .i64 x1_1) ∧ W.cell? ⟨w.heap.size + 1, 0, none⟩ = some (.int .i64 x3_0) ∧ W.cell? ⟨w.heap.size + 1, 1, none⟩ = some (.int .i64 x3_1) ∧ W.cell? ⟨w.heap.size + 1, 2, none⟩ = some (.int .i64 x3_2) ∧ W.cell? ⟨w.heap.size + 1, 3, none⟩ = some (.int .i64 x3_3) ∧ W.cell? ⟨w.heap.size + 1, 4, none⟩ = some (.int .i64 x3_4)) (first | (with_reducible exact HS.out) | (with_reducible exact HD.out) | (with_reducible exact HSA.out _) | (with_reducible exact HDA.out _) | ((with_reducible refine ⟨?_, ?_, ?_, ?_, ?_, ?_, ?_⟩) <;> (repeat (with_reducible refine (World.cell?_setCell_far _ _ _ _ (by first | (simp; done) | (simp; omega))).trans ?_)) <;> first | (with_reducible exact HS.out.1) | (with_reducible exact HS.out.2.1) | (with_reducible exact HS.out.2.2.1) | (with_reducible exact HS.out.2.2.2.1) | (with_reducible exact HS.out.2.2.2.2.1) | (with_reducible exact HS.out.2.2.2.2.2.1) | (with_reducible exact HS.out.2.2.2.2.2.2) | (with_reducible exact (HSA.out _).1) | (with_reducible exact (HSA.out _).2.1) | (with_reducible exact (HSA.out _).2.2.1) | (with_reducible exact (HSA.out _).2.2.2.1) | (with_reducible exact (HSA.out _).2.2.2.2.1) | (with_reducible exact (HSA.out _).2.2.2.2.2.1) | (with_reducible exact (HSA.out _).2.2.2.2.2.2) | fail) | fail) (first | (go_at_call 33; (with_reducible refine (toRules_any x1_0 x1_1 _).mono ?_); rintro e w7 ⟨rfl, hb⟩; have hbb : Below w6.heap.size w6 w7 := Below.trans (by repeat (first | exact Below.refl _ _ | refine Below.drew ?_ | refine Below.alloc ?_ (by first | (simp; done) | (simp; omega)) _)) (Below.mono hb (by simp)); (try (replace hkg := Box.below hkg hbb hkl; replace hkz := Fz.below hkz hbb hkl; replace hkl := Nat.lt_of_lt_of_le hkl hbb.size)); (try (with_reducible have hkn := box_nd hb; obtain ⟨hkg, hkz, hkl⟩ := hkn)); clear hb; have hs7 := hbb.size; replace hr0 := hr0.below hbb (by omega); replace hob := hob.below hbb (by omega); replace hrb := hrb.below hbb (by omega); replace hk1 := hk1.below hbb (by omega); replace hk3 := hk3.below hbb (by omega); replace hga := hga.below hbb (by omega); replace hB := hB.trans (hbb.mono (by omega)); replace hC := hC.trans (hbb.mono (by omega)); clear hbb; have HS : Hid (w7.cell? ⟨w.heap.size, 0, none⟩ = some (.int .i64 x1_0) ∧ w7.cell? ⟨w.heap.size, 1, none⟩ = some (.int .i64 x1_1) ∧ w7.cell? ⟨w.heap.size + 1, 0, none⟩ = some (.int .i64 x3_0) ∧ w7.cell? ⟨w.heap.size + 1, 1, none⟩ = some (.int .i64 x3_1) ∧ w7.cell? ⟨w.heap.size + 1, 2, none⟩ = some (.int .i64 x3_2) ∧ w7.cell? ⟨w.heap.size + 1, 3, none⟩ = some (.int .i64 x3_3) ∧ w7.cell? ⟨w.heap.size + 1, 4, none⟩ = some (.int .i64 x3_4)) := hide ⟨hk1 0 _ rfl, hk1 1 _ rfl, hk3 0 _ rfl, hk3 1 _ rfl, hk3 2 _ rfl, hk3 3 _ rfl, hk3 4 _ rfl⟩; have HSA : Hid (∀ o : Obj, (World.alloc w7 o).cell? ⟨w.heap.size, 0, none⟩ = some (.int .i64 x1_0) ∧ (World.alloc w7 o).cell? ⟨w.heap.size, 1, none⟩ = some (.int .i64 x1_1) ∧ (World.alloc w7 o).cell? ⟨w.heap.size + 1, 0, none⟩ = some (.int .i64 x3_0) ∧ (World.alloc w7 o).cell? ⟨w.heap.size + 1, 1, none⟩ = some (.int .i64 x3_1) ∧ (World.alloc w7 o).cell? ⟨w.heap.size + 1, 2, none⟩ = some (.int .i64 x3_2) ∧ (World.alloc w7 o).cell? ⟨w.heap.size + 1, 3, none⟩ = some (.int .i64 x3_3) ∧ (World.alloc w7 o).cell? ⟨w.heap.size + 1, 4, none⟩ = some (.int .i64 x3_4)) := hide (fun o => ⟨Box.moreAt (W := w7) hk1 o 0 _ rfl, Box.moreAt (W := w7) hk1 o 1 _ rfl, Box.moreAt (W := w7) hk3 o 0 _ rfl, Box.moreAt (W := w7) hk3 o 1 _ rfl, Box.moreAt (W := w7) hk3 o 2 _ rfl, Box.moreAt (W := w7) hk3 o 3 _ rfl, Box.moreAt (W := w7) hk3 o 4 _ rfl⟩)) | (go_at_call 34; (with_reducible refine (toControl_any x3_0 x3_1 x3_2 x3_3 x3_4 _).mono ?_); rintro e w8 ⟨rfl, hb⟩; have hbb : Below w7.heap.size w7 w8 := Below.trans (by repeat (first | exact Below.refl _ _ | refine Below.drew ?_ | refine Below.alloc ?_ (by first | (simp; done) | (simp; omega)) _)) (Below.mono hb (by simp)); (try (replace hkg := Box.below hkg hbb hkl; replace hkz := Fz.below hkz hbb hkl; replace hkl := Nat.lt_of_lt_of_le hkl hbb.size)); (try (with_reducible have hkn := box_nb hb; obtain ⟨hkg, hkz, hkl⟩ := hkn)); clear hb; have hs8 := hbb.size; replace hr0 := hr0.below hbb (by omega); replace hob := hob.below hbb (by omega); replace hrb := hrb.below hbb (by omega); replace hk1 := hk1.below hbb (by omega); replace hk3 := hk3.below hbb (by omega); replace hga := hga.below hbb (by omega); replace hB := hB.trans (hbb.mono (by omega)); replace hC := hC.trans (hbb.mono (by omega)); clear hbb; have HS : Hid (w8.cell? ⟨w.heap.size, 0, none⟩ = some (.int .i64 x1_0) ∧ w8.cell? ⟨w.heap.size, 1, none⟩ = some (.int .i64 x1_1) ∧ w8.cell? ⟨w.heap.size + 1, 0, none⟩ = some (.int .i64 x3_0) ∧ w8.cell? ⟨w.heap.size + 1, 1, none⟩ = some (.int .i64 x3_1) ∧ w8.cell? ⟨w.heap.size + 1, 2, none⟩ = some (.int .i64 x3_2) ∧ w8.cell? ⟨w.heap.size + 1, 3, none⟩ = some (.int .i64 x3_3) ∧ w8.cell? ⟨w.heap.size + 1, 4, none⟩ = some (.int .i64 x3_4)) := hide ⟨hk1 0 _ rfl, hk1 1 _ rfl, hk3 0 _ rfl, hk3 1 _ rfl, hk3 2 _ rfl, hk3 3 _ rfl, hk3 4 _ rfl⟩; have HSA : Hid (∀ o : Obj, (World.alloc w8 o).cell? ⟨w.heap.size, 0, none⟩ = some (.int .i64 x1_0) ∧ (World.alloc w8 o).cell? ⟨w.heap.size, 1, none⟩ = some (.int .i64 x1_1) ∧ (World.alloc w8 o).cell? ⟨w.heap.size + 1, 0, none⟩ = some (.int .i64 x3_0) ∧ (World.alloc w8 o).cell? ⟨w.heap.size + 1, 1, none⟩ = some (.int .i64 x3_1) ∧ (World.alloc w8 o).cell? ⟨w.heap.size + 1, 2, none⟩ = some (.int .i64 x3_2) ∧ (World.alloc w8 o).cell? ⟨w.heap.size + 1, 3, none⟩ = some (.int .i64 x3_3) ∧ (World.alloc w8 o).cell? ⟨w.heap.size + 1, 4, none⟩ = some (.int .i64 x3_4)) := hide (fun o => ⟨Box.moreAt (W := w8) hk1 o 0 _ rfl, Box.moreAt (W := w8) hk1 o 1 _ rfl, Box.moreAt (W := w8) hk3 o 0 _ rfl, Box.moreAt (W := w8) hk3 o 1 _ rfl, Box.moreAt (W := w8) hk3 o 2 _ rfl, Box.moreAt (W := w8) hk3 o 3 _ rfl, Box.moreAt (W := w8) hk3 o 4 _ rfl⟩)) | (go_at_call 35; (first | (with_reducible refine (implStepControl_any Ab n0 cb _ _ l0 (by unfold maxLen; omega) x1_0 x1_1 x2 x3_0 x3_1 x3_2 x3_3 x3_4 _ hrb (by omega)).mono ?_) | (with_reducible refine (implStepControl_any Ab n0 cb _ _ l0 (by unfold maxLen; omega) x1_0 x1_1 x2 x3_0 x3_1 x3_2 x3_3 x3_4 _ (RdSS.lay hrb (by omega) _) (le_lay (by omega))).mono ?_)); rintro e w9 ⟨rfl, hb⟩; have hbb : Below w8.heap.size w8 w9 := Below.trans (by repeat (first | exact Below.refl _ _ | refine Below.drew ?_ | refine Below.alloc ?_ (by first | (simp; done) | (simp; omega)) _)) (Below.mono hb (by simp)); (try (replace hkg := Box.below hkg hbb hkl; replace hkz := Fz.below hkz hbb hkl; replace hkl := Nat.lt_of_lt_of_le hkl hbb.size)); (try (with_reducible have hkn := box_nb hb; obtain ⟨hkg, hkz, hkl⟩ := hkn)); clear hb; have hs9 := hbb.size; replace hr0 := hr0.below hbb (by omega); replace hob := hob.below hbb (by omega); replace hrb := hrb.below hbb (by omega); replace hk1 := hk1.below hbb (by omega); replace hk3 := hk3.below hbb (by omega); replace hga := hga.below hbb (by omega); replace hB := hB.trans (hbb.mono (by omega)); replace hC := hC.trans (hbb.mono (by omega)); clear hbb; have HS : Hid (w9.cell? ⟨w.heap.size, 0, none⟩ = some (.int .i64 x1_0) ∧ w9.cell? ⟨w.heap.size, 1, none⟩ = some (.int .i64 x1_1) ∧ w9.cell? ⟨w.heap.size + 1, 0, none⟩ = some (.int .i64 x3_0) ∧ w9.cell? ⟨w.heap.size + 1, 1, none⟩ = some (.int .i64 x3_1) ∧ w9.cell? ⟨w.heap.size + 1, 2, none⟩ = some (.int .i64 x3_2) ∧ w9.cell? ⟨w.heap.size + 1, 3, none⟩ = some (.int .i64 x3_3) ∧ w9.cell? ⟨w.heap.size + 1, 4, none⟩ = some (.int .i64 x3_4)) := hide ⟨hk1 0 _ rfl, hk1 1 _ rfl, hk3 0 _ rfl, hk3 1 _ rfl, hk3 2 _ rfl, hk3 3 _ rfl, hk3 4 _ rfl⟩; have HSA : Hid (∀ o : Obj, (World.alloc w9 o).cell? ⟨w.heap.size, 0, none⟩ = some (.int .i64 x1_0) ∧ (World.alloc w9 o).cell? ⟨w.heap.size, 1, none⟩ = some (.int .i64 x1_1) ∧ (World.alloc w9 o).cell? ⟨w.heap.size + 1, 0, none⟩ = some (.int .i64 x3_0) ∧ (World.alloc w9 o).cell? ⟨w.heap.size + 1, 1, none⟩ = some (.int .i64 x3_1) ∧ (World.alloc w9 o).cell? ⟨w.heap.size + 1, 2, none⟩ = some (.int .i64 x3_2) ∧ (World.alloc w9 o).cell? ⟨w.heap.size + 1, 3, none⟩ = some (.int .i64 x3_3) ∧ (World.alloc w9 o).cell? ⟨w.heap.size + 1, 4, none⟩ = some (.int .i64 x3_4)) := hide (fun o => ⟨Box.moreAt (W := w9) hk1 o 0 _ rfl, Box.moreAt (W := w9) hk1 o 1 _ rfl, Box.moreAt (W := w9) hk3 o 0 _ rfl, Box.moreAt (W := w9) hk3 o 1 _ rfl, Box.moreAt (W := w9) hk3 o 2 _ rfl, Box.moreAt (W := w9) hk3 o 3 _ rfl, Box.moreAt (W := w9) hk3 o 4 _ rfl⟩); (try (have lg0 := hkg 0 _ rfl; have lz0 := hkz 0; have lg1 := hkg 1 _ rfl; have lz1 := hkz 1; have lg2 := hkg 2 _ rfl; have lz2 := hkz 2; have lg3 := hkg 3 _ rfl; have lz3 := hkz 3; have lg4 := hkg 4 _ rfl; have lz4 := hkz 4))))
        all_goals (go_wp2_with fail; go_meet)
        all_goals (with_reducible refine ⟨rfl, ?_⟩)
        all_goals first | (with_reducible exact fin5 hkg (by simp) (by omega) hkl hC) | (with_reducible exact fin5n (by omega) hC)
      case rest =>
        obtain ⟨rfl, gb, rfl, hgb, hglb, hgub, hC⟩ := hcut
        rename World => w10
        have hs10 := hC.size
        replace hr0 := hr0.below hC (by omega)
        replace hob := hob.below hC (by omega)
        replace hrb := hrb.below hC (by omega)
        replace hk1 := hk1.below hC (by omega)
        replace hk3 := hk3.below hC (by omega)
        replace hga := hga.below hC (by omega)
        replace hB := hB.trans (hC.mono (by omega))
        clear hC
        have la0 := hga 0 _ rfl
        have la1 := hga 1 _ rfl
        have la2 := hga 2 _ rfl
        have la3 := hga 3 _ rfl
        have la4 := hga 4 _ rfl
        have lb0 := hgb 0 _ rfl
        have lb1 := hgb 1 _ rfl
        have lb2 := hgb 2 _ rfl
        have lb3 := hgb 3 _ rfl
        have lb4 := hgb 4 _ rfl
        go_wp2_with fail
        refine (eqControl_same _ _ _ _ _ _).mono ?_
        rintro e w11 ⟨rfl, hb⟩
        have hbb : Below w10.heap.size w10 w11 := Below.trans (by repeat (first | exact Below.refl _ _ | refine Below.drew ?_ | refine Below.alloc ?_ (by first | (simp; done) | (simp; omega)) _)) (Below.mono hb (by simp))
        clear hb
        have hs11 := hbb.size
        replace hr0 := hr0.below hbb (by omega)
        replace hob := hob.below hbb (by omega)
        replace hrb := hrb.below hbb (by omega)
        replace hk1 := hk1.below hbb (by omega)
        replace hk3 := hk3.below hbb (by omega)
        replace hga := hga.below hbb (by omega)
        replace hgb := hgb.below hbb (by omega)
        replace hB := hB.trans (hbb.mono (by omega))
        clear hbb
        go_wp2_with fail
        refine (toBoolSS_any A0 n0 c0 0 w.heap.size l0 hn HROW.out _ (by exact hr0) (by first | omega | (simp; omega))).mono ?_
        rintro e w12 ⟨vz, rfl, hoz, hb⟩
        have hbb : Below w11.heap.size w11 w12 := Below.trans (by repeat (first | exact Below.refl _ _ | refine Below.drew ?_ | refine Below.alloc ?_ (by first | (simp; done) | (simp; omega)) _)) (Below.mono hb (by simp))
        clear hb
        have hs12 := hbb.size
        replace hr0 := hr0.below hbb (by omega)
        replace hob := hob.below hbb (by omega)
        replace hrb := hrb.below hbb (by omega)
        replace hk1 := hk1.below hbb (by omega)
        replace hk3 := hk3.below hbb (by omega)
        replace hga := hga.below hbb (by omega)
        replace hgb := hgb.below hbb (by omega)
        replace hB := hB.trans (hbb.mono (by omega))
        clear hbb
        obtain ⟨Az, cz, rfl, _, _, hrz⟩ := hoz.rd; obtain ⟨Hz, hHz, hoz, hrz⟩ : ∃ H, H ≤ w12.heap.size ∧ OwnSS w12 _ H _ _ _ _ _ ∧ RdSS w12 _ H _ _ _ := ⟨_, Nat.le_refl _, hoz, hrz⟩
        go_wp2_with fail
        refine (eqBoolSS_same Ab Az n0 cb cz _ _ _ _ l0 hn HROW.out _ hrb hrz (by omega) (by omega)).mono ?_
        rintro e w13 ⟨rfl, hb⟩
        have hbb : Below w12.heap.size w12 w13 := Below.trans (by repeat (first | exact Below.refl _ _ | refine Below.drew ?_ | refine Below.alloc ?_ (by first | (simp; done) | (simp; omega)) _)) (Below.mono hb (by simp))
        clear hb
        have hs13 := hbb.size
        replace hr0 := hr0.below hbb (by omega)
        replace hob := hob.below hbb (by omega)
        replace hrb := hrb.below hbb (by omega)
        replace hoz := hoz.below hbb (by omega)
        replace hrz := hrz.below hbb (by omega)
        replace hk1 := hk1.below hbb (by omega)
        replace hk3 := hk3.below hbb (by omega)
        replace hga := hga.below hbb (by omega)
        replace hgb := hgb.below hbb (by omega)
        replace hB := hB.trans (hbb.mono (by omega))
        clear hbb
        go_wp2_with fail
        go_ret
        exact ⟨rfl, hB⟩
  · clear hw0
    have HB0 : Below w.heap.size w ((w.alloc (.cells #[.int .i64 x1_0, .int .i64 x1_1] 49)).alloc (.cells #[.int .i64 x3_0, .int .i64 x3_1, .int .i64 x3_2, .int .i64 x3_3, .int .i64 x3_4] 51)) := (by repeat (first | exact Below.refl _ _ | refine Below.drew ?_ | refine Below.alloc ?_ (by first | (simp; done) | (simp; omega)) _))
    have HR0 := hr0.below HB0 (Nat.le_refl _)
    go_enter Try.func6, Try.ntmps6
    go_wp2_with fail
    refine (szBoolSS_big A0 n0 c0 0 w.heap.size l0 _ (by omega) (by omega) (by omega) hm0 _ HR0).mono ?_
    rintro e w' ⟨rfl, rfl⟩
    go_wp2_with fail
    go_ret
    exact ⟨rfl, HB0⟩

set_option maxRecDepth 100000 in
theorem lifted (os : Os) (started : os.Started) (H : Type) (enc : TypeId × Value → H) :
    ReturnsInHanded {} Try.checked os 6 .any (Rows.fnExactStepControlSpec.pre6 enc Try.prog Try.f6 Rows.fnExactStepControlRow.domain false) (Rows.fnExactStepControlSpec.post enc Try.prog Try.f6 false true false false) := by
  refine returnsInHanded_of_change (C := Try.checked) own started (by kernel_rfl) Try.func6
    (ChangeSpec.witness6 (enc := enc) (C := Try.checked) false ⟨#[], #[.slice none 0 0, .agg #[.int .i64 0, .int .i64 0], .bool false, .agg #[.int .i64 0, .int .i64 0, .int .i64 0, .int .i64 0, .int .i64 0]], []⟩ 8 (by kernel_rfl) (by kernel_rfl) (by kernel_rfl) (by kernel_rfl)) ?_
  intro W base args ds gs before hval0 hW hcnd _
  have hval : ∀ (j : Nat) t v, Try.f6.params[j]? = some t → args[j]? = some v → Value.okWide Try.prog W .any base t v := hval0
  have hW' := hW
  obtain ⟨p, q, hA0, hV, rfl, hfz, hnd⟩ := hW
  have hA : DataW.TrodAll enc Try.prog W 0 (fun _ => true) true Try.f6.params.toList args.toList ds p := hA0
  rw [Try.params6] at hA hval
  obtain ⟨v0, vs0, d0, ds0, p0, q0, hargs, rfl, rfl, h0, r0⟩ := trodAll_cons hA
  obtain ⟨v1, vs1, d1, ds1, p1, q1, rfl, rfl, rfl, h1, r1⟩ := trodAll_cons r0
  obtain ⟨v2, vs2, d2, ds2, p2, q2, rfl, rfl, rfl, h2, r2⟩ := trodAll_cons r1
  obtain ⟨v3, vs3, d3, ds3, p3, q3, rfl, rfl, rfl, h3, r3⟩ := trodAll_cons r2
  obtain ⟨rfl, rfl, rfl⟩ := trodAll_nil r3
  obtain rfl : args = #[v0, v1, v2, v3] := by cases args; simp_all
  obtain ⟨rfl, rfl⟩ := trodVars_none hV
  obtain ⟨A0, n0, c0, l0, rfl, hnc0, hcm0, hr0, hw0⟩ := open_BoolSS (hval 0 22 v0 rfl rfl) h0
  obtain ⟨l1, hl1, rfl, hw1⟩ := open_ints_struct (k := .i64) Try.underlying49 (by kernel_rfl) (by kernel_rfl) (hval 1 49 v1 rfl rfl) h1
  obtain ⟨x1_0, x1_1, rfl⟩ := list2 (show l1.length = 2 from hl1)
  obtain ⟨x2, rfl, rfl, rfl⟩ := open_bool Try.underlying4 (hval 2 4 v2 rfl rfl) h2
  obtain ⟨l3, hl3, rfl, hw3⟩ := open_ints_struct (k := .i64) Try.underlying51 (by kernel_rfl) (by kernel_rfl) (hval 3 51 v3 rfl rfl) h3
  obtain ⟨x3_0, x3_1, x3_2, x3_3, x3_4, rfl⟩ := list5 (show l3.length = 5 from hl3)
  clear hA0 hval0
  refine (walk W A0 n0 c0 l0 (Nat.le_trans hnc0 hcm0) hr0 hw0 x1_0 x1_1 (hw1 x1_0 (by simp)) (hw1 x1_1 (by simp)) x2 x3_0 x3_1 x3_2 x3_3 x3_4 (hw3 x3_0 (by simp)) (hw3 x3_1 (by simp)) (hw3 x3_2 (by simp)) (hw3 x3_3 (by simp)) (hw3 x3_4 (by simp))).mono fun e W' ⟨he, hB⟩ => ?_
  subst he
  exact ⟨_, rfl, law_post laidOut Try.underlying4 rfl (by kernel_rfl) (by kernel_rfl) hW' rfl rfl rfl hB⟩

theorem proved : Rows.FnExactStepControlSaid :=
  OpenClaim.holds_of_wide 6 Try.f6 rfl rfl rfl rfl rfl rfl rfl ⟨rfl, rfl, rfl, rfl, rfl⟩ rfl rfl rfl rfl rfl (by kernel_rfl) Try.func6 (joined rfl rfl rfl (by kernel_rfl))
    (of_decide_eq_true (by kernel_rfl)) (by unfold Func.isWrapper; first | (rw [if_pos (by decide +kernel)]; kernel_rfl) | (rw [if_neg (by decide +kernel)]; exact ⟨rfl, rfl⟩))
    (fun os started H enc _ => lifted os started H enc)
#print axioms proved
end fnExactStepControl
end Go.Proofs.Ytnhlobjekmjagaa
