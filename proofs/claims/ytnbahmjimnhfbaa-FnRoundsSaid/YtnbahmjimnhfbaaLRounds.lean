/-
  FnRounds: the law answers true at every input, and the input reads behind the call as it read before. No condition.
-/
import Derived.Test.YtnbahmjimnhfbaaFrame
import Derived.Test.YtnbahmjimnhfbaaFacts
import Derived.WalkKit
import Derived.WalkSpells
import Derived.WalkLawsBesides
import Derived.Deep.RegionWith
import Derived.Deep.DeepCutAuto
import Derived.Test.YtnbahmjimnhfbaaOpnByte
import Derived.Test.YtnbahmjimnhfbaaDrawL
import Derived.Test.YtnbahmjimnhfbaaRnd
namespace Go.Proofs.Ytnbahmjimnhfbaa
open Go.ChangeShapes Go.WideShapes Go.ChangeAt Go.RowKit
namespace fnRounds
set_option linter.unusedVariables false
set_option linter.unusedSimpArgs false
set_option maxRecDepth 100000 in
set_option maxHeartbeats 4000000 in
theorem walk (w : World) (A0 : Option Addr) (n0 c0 : Nat) (l0 : List (Int)) (hl0 : l0.length = n0) (hm0 : n0 ≤ maxLen) (hr0 : Rd w 0 w.heap.size 1 A0 n0 (rByte l0)) (hw0 : ∀ p ∈ l0, (Lit.int .u8 p).wf = true) :
    Calls Try.prog 5 #[.slice A0 n0 c0] w fun e w' => e = .returned (.bool true) ∧ Below w.heap.size w w' := by
  by_cases hn0 : n0 ≤ 4096
  · have hv0 := rByte_u8 hw0
    have HV0 := hide hv0
    have HR0 := hide hr0
    have HB := hide (Below.refl w.heap.size w)
    clear hw0 hv0 hl0 hr0
    go_enter Try.func5, Try.ntmps5
    go_wp2_with fail
    refine (g6no A0 n0 c0 hn0 _).mono ?_
    rintro e w' ⟨rfl, rfl⟩
    go_wp2_with fail
    refine (DrawRunRound_g A0 n0 c0 w.heap.size _ hm0 _ HR0.out (by omega) HV0.out).mono ?_
    rintro e w1 ⟨v, x, y, a0, a1, a2, a3, a4, d0, d1, d2, d3, d4, x1, x2, rfl, hv, hq⟩
    have hs_w1 : w.heap.size ≤ w1.heap.size := hq.size
    replace HR0 := hide (HR0.out.below hq (by omega))
    replace HB := hide (HB.out.trans (hq.mono (by omega)))
    clear hq
    obtain ⟨At, nt, ct, Tt, rfl, hmt, hrt⟩ := hv
    have Rt := hide hrt
    clear hrt
    go_wp2_with fail
    obtain ⟨w2, hW⟩ : ∃ W : World, W = ((((w1.alloc (.cells #[.int .i64 x, .int .i64 y] 51)).alloc (.cells #[.int .i64 a0, .int .i64 a1, .int .i64 a2, .int .i64 a3, .int .i64 a4] 53)).alloc (.cells #[.int .i64 d0, .int .i64 d1, .int .i64 d2, .int .i64 d3, .int .i64 d4] 53)).alloc (.cells #[.bool x1, .bool x2] 55)) := ⟨_, rfl⟩
    rw [← hW]
    have hs_w2 : w2.heap.size = w1.heap.size + 4 := by rw [hW]; simp
    have hq : Below w1.heap.size w1 w2 := by rw [hW]; exact (((((Below.refl _ _).alloc (by first | omega | (simp <;> omega) | simp) _).alloc (by first | omega | (simp <;> omega) | simp) _).alloc (by first | omega | (simp <;> omega) | simp) _).alloc (by first | omega | (simp <;> omega) | simp) _)
    replace HR0 := hide (HR0.out.below hq (by omega))
    replace Rt := hide (Rt.out.below hq (by omega))
    replace HB := hide (HB.out.trans (hq.mono (by omega)))
    clear hq
    have bB4 : Box w2 w1.heap.size [.int .i64 x, .int .i64 y] := by rw [hW]; exact ((((box_at _ _ _ _ (by simp)).alloc (by first | omega | (simp <;> omega) | simp) _).alloc (by first | omega | (simp <;> omega) | simp) _).alloc (by first | omega | (simp <;> omega) | simp) _)
    have bB5 : Box w2 (w1.heap.size + 1) [.int .i64 a0, .int .i64 a1, .int .i64 a2, .int .i64 a3, .int .i64 a4] := by rw [hW]; exact (((box_at _ _ _ _ (by simp)).alloc (by first | omega | (simp <;> omega) | simp) _).alloc (by first | omega | (simp <;> omega) | simp) _)
    have bB6 : Box w2 (w1.heap.size + 1 + 1) [.int .i64 d0, .int .i64 d1, .int .i64 d2, .int .i64 d3, .int .i64 d4] := by rw [hW]; exact ((box_at _ _ _ _ (by simp)).alloc (by first | omega | (simp <;> omega) | simp) _)
    have bB7 : Box w2 (w1.heap.size + 1 + 1 + 1) [.bool x1, .bool x2] := by rw [hW]; exact (box_at _ _ _ _ (by simp))
    clear hW
    obtain ⟨⟨⟨p0, p1, p2, p3, p4⟩, ⟨q0, q1, q2, q3, q4⟩⟩, hHP⟩ : ∃ z, rrP Tt x y x1 x2 (a0, a1, a2, a3, a4) (d0, d1, d2, d3, d4) = z := ⟨_, rfl⟩
    have HP := hide hHP
    clear hHP
    obtain ⟨cc, hHC⟩ : ∃ z, codeC Tt x y [(a0, a1, a2, a3, a4), (d0, d1, d2, d3, d4)] = z := ⟨_, rfl⟩
    have HC := hide hHC
    clear hHC
    refine (implRunRound_as At nt ct _ _ Tt hmt x y a0 a1 a2 a3 a4 d0 d1 d2 d3 d4 x1 x2 _ HP HC Rt.out (by omega)).mono ?_
    rintro e w3 ⟨rfl, hq⟩
    have hs_w3 : w2.heap.size ≤ w3.heap.size := hq.size
    replace bB4 := bB4.below hq (by omega)
    replace bB5 := bB5.below hq (by omega)
    replace bB6 := bB6.below hq (by omega)
    replace bB7 := bB7.below hq (by omega)
    replace HR0 := hide (HR0.out.below hq (by omega))
    replace Rt := hide (Rt.out.below hq (by omega))
    replace HB := hide (HB.out.trans (hq.mono (by omega)))
    clear hq
    have lB4_0 : ∀ o0 o1 : Obj, ((w3.alloc o0).alloc o1).cell? ⟨w1.heap.size, 0, none⟩ = some (.int .i64 x) := fun o0 o1 => ((bB4.alloc (by first | omega | (simp; omega)) o0).alloc (by first | omega | (simp; omega)) o1) 0 _ rfl
    have lB4_1 : ∀ o0 o1 : Obj, ((w3.alloc o0).alloc o1).cell? ⟨w1.heap.size, 1, none⟩ = some (.int .i64 y) := fun o0 o1 => ((bB4.alloc (by first | omega | (simp; omega)) o0).alloc (by first | omega | (simp; omega)) o1) 1 _ rfl
    have lB5_0 : ∀ o0 o1 : Obj, ((w3.alloc o0).alloc o1).cell? ⟨(w1.heap.size + 1), 0, none⟩ = some (.int .i64 a0) := fun o0 o1 => ((bB5.alloc (by first | omega | (simp; omega)) o0).alloc (by first | omega | (simp; omega)) o1) 0 _ rfl
    have lB5_1 : ∀ o0 o1 : Obj, ((w3.alloc o0).alloc o1).cell? ⟨(w1.heap.size + 1), 1, none⟩ = some (.int .i64 a1) := fun o0 o1 => ((bB5.alloc (by first | omega | (simp; omega)) o0).alloc (by first | omega | (simp; omega)) o1) 1 _ rfl
    have lB5_2 : ∀ o0 o1 : Obj, ((w3.alloc o0).alloc o1).cell? ⟨(w1.heap.size + 1), 2, none⟩ = some (.int .i64 a2) := fun o0 o1 => ((bB5.alloc (by first | omega | (simp; omega)) o0).alloc (by first | omega | (simp; omega)) o1) 2 _ rfl
    have lB5_3 : ∀ o0 o1 : Obj, ((w3.alloc o0).alloc o1).cell? ⟨(w1.heap.size + 1), 3, none⟩ = some (.int .i64 a3) := fun o0 o1 => ((bB5.alloc (by first | omega | (simp; omega)) o0).alloc (by first | omega | (simp; omega)) o1) 3 _ rfl
    have lB5_4 : ∀ o0 o1 : Obj, ((w3.alloc o0).alloc o1).cell? ⟨(w1.heap.size + 1), 4, none⟩ = some (.int .i64 a4) := fun o0 o1 => ((bB5.alloc (by first | omega | (simp; omega)) o0).alloc (by first | omega | (simp; omega)) o1) 4 _ rfl
    have lB6_0 : ∀ o0 o1 : Obj, ((w3.alloc o0).alloc o1).cell? ⟨(w1.heap.size + 1 + 1), 0, none⟩ = some (.int .i64 d0) := fun o0 o1 => ((bB6.alloc (by first | omega | (simp; omega)) o0).alloc (by first | omega | (simp; omega)) o1) 0 _ rfl
    have lB6_1 : ∀ o0 o1 : Obj, ((w3.alloc o0).alloc o1).cell? ⟨(w1.heap.size + 1 + 1), 1, none⟩ = some (.int .i64 d1) := fun o0 o1 => ((bB6.alloc (by first | omega | (simp; omega)) o0).alloc (by first | omega | (simp; omega)) o1) 1 _ rfl
    have lB6_2 : ∀ o0 o1 : Obj, ((w3.alloc o0).alloc o1).cell? ⟨(w1.heap.size + 1 + 1), 2, none⟩ = some (.int .i64 d2) := fun o0 o1 => ((bB6.alloc (by first | omega | (simp; omega)) o0).alloc (by first | omega | (simp; omega)) o1) 2 _ rfl
    have lB6_3 : ∀ o0 o1 : Obj, ((w3.alloc o0).alloc o1).cell? ⟨(w1.heap.size + 1 + 1), 3, none⟩ = some (.int .i64 d3) := fun o0 o1 => ((bB6.alloc (by first | omega | (simp; omega)) o0).alloc (by first | omega | (simp; omega)) o1) 3 _ rfl
    have lB6_4 : ∀ o0 o1 : Obj, ((w3.alloc o0).alloc o1).cell? ⟨(w1.heap.size + 1 + 1), 4, none⟩ = some (.int .i64 d4) := fun o0 o1 => ((bB6.alloc (by first | omega | (simp; omega)) o0).alloc (by first | omega | (simp; omega)) o1) 4 _ rfl
    have lB7_0 : ∀ o0 o1 : Obj, ((w3.alloc o0).alloc o1).cell? ⟨(w1.heap.size + 1 + 1 + 1), 0, none⟩ = some (.bool x1) := fun o0 o1 => ((bB7.alloc (by first | omega | (simp; omega)) o0).alloc (by first | omega | (simp; omega)) o1) 0 _ rfl
    have lB7_1 : ∀ o0 o1 : Obj, ((w3.alloc o0).alloc o1).cell? ⟨(w1.heap.size + 1 + 1 + 1), 1, none⟩ = some (.bool x2) := fun o0 o1 => ((bB7.alloc (by first | omega | (simp; omega)) o0).alloc (by first | omega | (simp; omega)) o1) 1 _ rfl
    go_wp2_with fail
    clear lB4_0 lB4_1 lB5_0 lB5_1 lB5_2 lB5_3 lB5_4 lB6_0 lB6_1 lB6_2 lB6_3 lB6_4 lB7_0 lB7_1
    obtain ⟨w4, hW⟩ : ∃ W : World, W = ((w3.alloc (.cells #[.int .i64 p0, .int .i64 p1, .int .i64 p2, .int .i64 p3, .int .i64 p4] 53)).alloc (.cells #[.int .i64 q0, .int .i64 q1, .int .i64 q2, .int .i64 q3, .int .i64 q4] 53)) := ⟨_, rfl⟩
    rw [← hW]
    have hs_w4 : w4.heap.size = w3.heap.size + 2 := by rw [hW]; simp
    have hq : Below w3.heap.size w3 w4 := by rw [hW]; exact (((Below.refl _ _).alloc (by first | omega | (simp <;> omega) | simp) _).alloc (by first | omega | (simp <;> omega) | simp) _)
    replace bB4 := bB4.below hq (by omega)
    replace bB5 := bB5.below hq (by omega)
    replace bB6 := bB6.below hq (by omega)
    replace bB7 := bB7.below hq (by omega)
    replace HR0 := hide (HR0.out.below hq (by omega))
    replace Rt := hide (Rt.out.below hq (by omega))
    replace HB := hide (HB.out.trans (hq.mono (by omega)))
    clear hq
    have bB8 : Box w4 w3.heap.size [.int .i64 p0, .int .i64 p1, .int .i64 p2, .int .i64 p3, .int .i64 p4] := by rw [hW]; exact ((box_at _ _ _ _ (by simp)).alloc (by first | omega | (simp <;> omega) | simp) _)
    have bB9 : Box w4 (w3.heap.size + 1) [.int .i64 q0, .int .i64 q1, .int .i64 q2, .int .i64 q3, .int .i64 q4] := by rw [hW]; exact (box_at _ _ _ _ (by simp))
    clear hW
    refine (specRunRound_as At nt ct _ _ Tt hmt x y a0 a1 a2 a3 a4 d0 d1 d2 d3 d4 x1 x2 _ HP HC Rt.out (by omega)).mono ?_
    rintro e w5 ⟨rfl, hq⟩
    have hs_w5 : w4.heap.size ≤ w5.heap.size := hq.size
    replace bB4 := bB4.below hq (by omega)
    replace bB5 := bB5.below hq (by omega)
    replace bB6 := bB6.below hq (by omega)
    replace bB7 := bB7.below hq (by omega)
    replace bB8 := bB8.below hq (by omega)
    replace bB9 := bB9.below hq (by omega)
    replace HR0 := hide (HR0.out.below hq (by omega))
    replace Rt := hide (Rt.out.below hq (by omega))
    replace HB := hide (HB.out.trans (hq.mono (by omega)))
    clear hq
    go_wp2_with fail
    obtain ⟨w6, hW⟩ : ∃ W : World, W = ((w5.alloc (.cells #[.int .i64 p0, .int .i64 p1, .int .i64 p2, .int .i64 p3, .int .i64 p4] 53)).alloc (.cells #[.int .i64 q0, .int .i64 q1, .int .i64 q2, .int .i64 q3, .int .i64 q4] 53)) := ⟨_, rfl⟩
    rw [← hW]
    have hs_w6 : w6.heap.size = w5.heap.size + 2 := by rw [hW]; simp
    have hq : Below w5.heap.size w5 w6 := by rw [hW]; exact (((Below.refl _ _).alloc (by first | omega | (simp <;> omega) | simp) _).alloc (by first | omega | (simp <;> omega) | simp) _)
    replace bB4 := bB4.below hq (by omega)
    replace bB5 := bB5.below hq (by omega)
    replace bB6 := bB6.below hq (by omega)
    replace bB7 := bB7.below hq (by omega)
    replace bB8 := bB8.below hq (by omega)
    replace bB9 := bB9.below hq (by omega)
    replace HR0 := hide (HR0.out.below hq (by omega))
    replace Rt := hide (Rt.out.below hq (by omega))
    replace HB := hide (HB.out.trans (hq.mono (by omega)))
    clear hq
    have bB11 : Box w6 w5.heap.size [.int .i64 p0, .int .i64 p1, .int .i64 p2, .int .i64 p3, .int .i64 p4] := by rw [hW]; exact ((box_at _ _ _ _ (by simp)).alloc (by first | omega | (simp <;> omega) | simp) _)
    have bB12 : Box w6 (w5.heap.size + 1) [.int .i64 q0, .int .i64 q1, .int .i64 q2, .int .i64 q3, .int .i64 q4] := by rw [hW]; exact (box_at _ _ _ _ (by simp))
    clear hW
    refine (DrawStepControl_g A0 n0 c0 w.heap.size _ hm0 _ HR0.out (by omega) HV0.out).mono ?_
    rintro e w7 ⟨v2, x', y', fst, g0, g1, g2, g3, g4, rfl, hv, hq⟩
    have hs_w7 : w6.heap.size ≤ w7.heap.size := hq.size
    replace bB4 := bB4.below hq (by omega)
    replace bB5 := bB5.below hq (by omega)
    replace bB6 := bB6.below hq (by omega)
    replace bB7 := bB7.below hq (by omega)
    replace bB8 := bB8.below hq (by omega)
    replace bB9 := bB9.below hq (by omega)
    replace bB11 := bB11.below hq (by omega)
    replace bB12 := bB12.below hq (by omega)
    replace HR0 := hide (HR0.out.below hq (by omega))
    replace Rt := hide (Rt.out.below hq (by omega))
    replace HB := hide (HB.out.trans (hq.mono (by omega)))
    clear hq
    obtain ⟨Au, nu, cu, Tu, rfl, hmu, hru⟩ := hv
    have Ru := hide hru
    clear hru
    go_wp2_with fail
    obtain ⟨w8, hW⟩ : ∃ W : World, W = ((w7.alloc (.cells #[.int .i64 x', .int .i64 y'] 51)).alloc (.cells #[.int .i64 g0, .int .i64 g1, .int .i64 g2, .int .i64 g3, .int .i64 g4] 53)) := ⟨_, rfl⟩
    rw [← hW]
    have hs_w8 : w8.heap.size = w7.heap.size + 2 := by rw [hW]; simp
    have hq : Below w7.heap.size w7 w8 := by rw [hW]; exact (((Below.refl _ _).alloc (by first | omega | (simp <;> omega) | simp) _).alloc (by first | omega | (simp <;> omega) | simp) _)
    replace bB4 := bB4.below hq (by omega)
    replace bB5 := bB5.below hq (by omega)
    replace bB6 := bB6.below hq (by omega)
    replace bB7 := bB7.below hq (by omega)
    replace bB8 := bB8.below hq (by omega)
    replace bB9 := bB9.below hq (by omega)
    replace bB11 := bB11.below hq (by omega)
    replace bB12 := bB12.below hq (by omega)
    replace HR0 := hide (HR0.out.below hq (by omega))
    replace Rt := hide (Rt.out.below hq (by omega))
    replace Ru := hide (Ru.out.below hq (by omega))
    replace HB := hide (HB.out.trans (hq.mono (by omega)))
    clear hq
    have bB15 : Box w8 w7.heap.size [.int .i64 x', .int .i64 y'] := by rw [hW]; exact ((box_at _ _ _ _ (by simp)).alloc (by first | omega | (simp <;> omega) | simp) _)
    have bB17 : Box w8 (w7.heap.size + 1) [.int .i64 g0, .int .i64 g1, .int .i64 g2, .int .i64 g3, .int .i64 g4] := by rw [hW]; exact (box_at _ _ _ _ (by simp))
    clear hW
    obtain ⟨⟨k0, k1, k2, k3, k4⟩, hHK⟩ : ∃ z, stepV Tu x' y' fst (g0, g1, g2, g3, g4) = z := ⟨_, rfl⟩
    have HK := hide hHK
    clear hHK
    obtain ⟨ck, hHCK⟩ : ∃ z, codeC Tu x' y' [(g0, g1, g2, g3, g4)] = z := ⟨_, rfl⟩
    have HCK := hide hHCK
    clear hHCK
    refine (implStep_as Au nu cu _ _ Tu hmu x' y' fst g0 g1 g2 g3 g4 _ HK HCK Ru.out (by omega)).mono ?_
    rintro e w9 ⟨rfl, hq⟩
    have hs_w9 : w8.heap.size ≤ w9.heap.size := hq.size
    replace bB4 := bB4.below hq (by omega)
    replace bB5 := bB5.below hq (by omega)
    replace bB6 := bB6.below hq (by omega)
    replace bB7 := bB7.below hq (by omega)
    replace bB8 := bB8.below hq (by omega)
    replace bB9 := bB9.below hq (by omega)
    replace bB11 := bB11.below hq (by omega)
    replace bB12 := bB12.below hq (by omega)
    replace bB15 := bB15.below hq (by omega)
    replace bB17 := bB17.below hq (by omega)
    replace HR0 := hide (HR0.out.below hq (by omega))
    replace Rt := hide (Rt.out.below hq (by omega))
    replace Ru := hide (Ru.out.below hq (by omega))
    replace HB := hide (HB.out.trans (hq.mono (by omega)))
    clear hq
    have lB15_0 : ∀ o0 : Obj, (w9.alloc o0).cell? ⟨w7.heap.size, 0, none⟩ = some (.int .i64 x') := fun o0 => (bB15.alloc (by first | omega | (simp; omega)) o0) 0 _ rfl
    have lB15_1 : ∀ o0 : Obj, (w9.alloc o0).cell? ⟨w7.heap.size, 1, none⟩ = some (.int .i64 y') := fun o0 => (bB15.alloc (by first | omega | (simp; omega)) o0) 1 _ rfl
    have lB17_0 : ∀ o0 : Obj, (w9.alloc o0).cell? ⟨(w7.heap.size + 1), 0, none⟩ = some (.int .i64 g0) := fun o0 => (bB17.alloc (by first | omega | (simp; omega)) o0) 0 _ rfl
    have lB17_1 : ∀ o0 : Obj, (w9.alloc o0).cell? ⟨(w7.heap.size + 1), 1, none⟩ = some (.int .i64 g1) := fun o0 => (bB17.alloc (by first | omega | (simp; omega)) o0) 1 _ rfl
    have lB17_2 : ∀ o0 : Obj, (w9.alloc o0).cell? ⟨(w7.heap.size + 1), 2, none⟩ = some (.int .i64 g2) := fun o0 => (bB17.alloc (by first | omega | (simp; omega)) o0) 2 _ rfl
    have lB17_3 : ∀ o0 : Obj, (w9.alloc o0).cell? ⟨(w7.heap.size + 1), 3, none⟩ = some (.int .i64 g3) := fun o0 => (bB17.alloc (by first | omega | (simp; omega)) o0) 3 _ rfl
    have lB17_4 : ∀ o0 : Obj, (w9.alloc o0).cell? ⟨(w7.heap.size + 1), 4, none⟩ = some (.int .i64 g4) := fun o0 => (bB17.alloc (by first | omega | (simp; omega)) o0) 4 _ rfl
    go_wp2_with fail
    clear lB15_0 lB15_1 lB17_0 lB17_1 lB17_2 lB17_3 lB17_4
    obtain ⟨w10, hW⟩ : ∃ W : World, W = (w9.alloc (.cells #[.int .i64 k0, .int .i64 k1, .int .i64 k2, .int .i64 k3, .int .i64 k4] 53)) := ⟨_, rfl⟩
    rw [← hW]
    have hs_w10 : w10.heap.size = w9.heap.size + 1 := by rw [hW]; simp
    have hq : Below w9.heap.size w9 w10 := by rw [hW]; exact ((Below.refl _ _).alloc (by first | omega | (simp <;> omega) | simp) _)
    replace bB4 := bB4.below hq (by omega)
    replace bB5 := bB5.below hq (by omega)
    replace bB6 := bB6.below hq (by omega)
    replace bB7 := bB7.below hq (by omega)
    replace bB8 := bB8.below hq (by omega)
    replace bB9 := bB9.below hq (by omega)
    replace bB11 := bB11.below hq (by omega)
    replace bB12 := bB12.below hq (by omega)
    replace bB15 := bB15.below hq (by omega)
    replace bB17 := bB17.below hq (by omega)
    replace HR0 := hide (HR0.out.below hq (by omega))
    replace Rt := hide (Rt.out.below hq (by omega))
    replace Ru := hide (Ru.out.below hq (by omega))
    replace HB := hide (HB.out.trans (hq.mono (by omega)))
    clear hq
    have bB18 : Box w10 w9.heap.size [.int .i64 k0, .int .i64 k1, .int .i64 k2, .int .i64 k3, .int .i64 k4] := by rw [hW]; exact (box_at _ _ _ _ (by simp))
    clear hW
    refine (specStep_as Au nu cu _ _ Tu hmu x' y' fst g0 g1 g2 g3 g4 _ HK HCK Ru.out (by omega)).mono ?_
    rintro e w11 ⟨rfl, hq⟩
    have hs_w11 : w10.heap.size ≤ w11.heap.size := hq.size
    replace bB4 := bB4.below hq (by omega)
    replace bB5 := bB5.below hq (by omega)
    replace bB6 := bB6.below hq (by omega)
    replace bB7 := bB7.below hq (by omega)
    replace bB8 := bB8.below hq (by omega)
    replace bB9 := bB9.below hq (by omega)
    replace bB11 := bB11.below hq (by omega)
    replace bB12 := bB12.below hq (by omega)
    replace bB15 := bB15.below hq (by omega)
    replace bB17 := bB17.below hq (by omega)
    replace bB18 := bB18.below hq (by omega)
    replace HR0 := hide (HR0.out.below hq (by omega))
    replace Rt := hide (Rt.out.below hq (by omega))
    replace Ru := hide (Ru.out.below hq (by omega))
    replace HB := hide (HB.out.trans (hq.mono (by omega)))
    clear hq
    go_wp2_with fail
    obtain ⟨w12, hW⟩ : ∃ W : World, W = (w11.alloc (.cells #[.int .i64 k0, .int .i64 k1, .int .i64 k2, .int .i64 k3, .int .i64 k4] 53)) := ⟨_, rfl⟩
    rw [← hW]
    have hs_w12 : w12.heap.size = w11.heap.size + 1 := by rw [hW]; simp
    have hq : Below w11.heap.size w11 w12 := by rw [hW]; exact ((Below.refl _ _).alloc (by first | omega | (simp <;> omega) | simp) _)
    replace bB4 := bB4.below hq (by omega)
    replace bB5 := bB5.below hq (by omega)
    replace bB6 := bB6.below hq (by omega)
    replace bB7 := bB7.below hq (by omega)
    replace bB8 := bB8.below hq (by omega)
    replace bB9 := bB9.below hq (by omega)
    replace bB11 := bB11.below hq (by omega)
    replace bB12 := bB12.below hq (by omega)
    replace bB15 := bB15.below hq (by omega)
    replace bB17 := bB17.below hq (by omega)
    replace bB18 := bB18.below hq (by omega)
    replace HR0 := hide (HR0.out.below hq (by omega))
    replace Rt := hide (Rt.out.below hq (by omega))
    replace Ru := hide (Ru.out.below hq (by omega))
    replace HB := hide (HB.out.trans (hq.mono (by omega)))
    clear hq
    have bB20 : Box w12 w11.heap.size [.int .i64 k0, .int .i64 k1, .int .i64 k2, .int .i64 k3, .int .i64 k4] := by rw [hW]; exact (box_at _ _ _ _ (by simp))
    clear hW
    refine (DrawHearOther_g A0 n0 c0 w.heap.size _ hm0 _ HR0.out (by omega) HV0.out).mono ?_
    rintro e w13 ⟨m0, m1, m2, m3, m4, arr, oth, rfl, hq⟩
    have hs_w13 : w12.heap.size ≤ w13.heap.size := hq.size
    replace bB4 := bB4.below hq (by omega)
    replace bB5 := bB5.below hq (by omega)
    replace bB6 := bB6.below hq (by omega)
    replace bB7 := bB7.below hq (by omega)
    replace bB8 := bB8.below hq (by omega)
    replace bB9 := bB9.below hq (by omega)
    replace bB11 := bB11.below hq (by omega)
    replace bB12 := bB12.below hq (by omega)
    replace bB15 := bB15.below hq (by omega)
    replace bB17 := bB17.below hq (by omega)
    replace bB18 := bB18.below hq (by omega)
    replace bB20 := bB20.below hq (by omega)
    replace HR0 := hide (HR0.out.below hq (by omega))
    replace Rt := hide (Rt.out.below hq (by omega))
    replace Ru := hide (Ru.out.below hq (by omega))
    replace HB := hide (HB.out.trans (hq.mono (by omega)))
    clear hq
    go_wp2_with fail
    obtain ⟨w14, hW⟩ : ∃ W : World, W = (w13.alloc (.cells #[.int .i64 m0, .int .i64 m1, .int .i64 m2, .int .i64 m3, .int .i64 m4] 53)) := ⟨_, rfl⟩
    rw [← hW]
    have hs_w14 : w14.heap.size = w13.heap.size + 1 := by rw [hW]; simp
    have hq : Below w13.heap.size w13 w14 := by rw [hW]; exact ((Below.refl _ _).alloc (by first | omega | (simp <;> omega) | simp) _)
    replace bB4 := bB4.below hq (by omega)
    replace bB5 := bB5.below hq (by omega)
    replace bB6 := bB6.below hq (by omega)
    replace bB7 := bB7.below hq (by omega)
    replace bB8 := bB8.below hq (by omega)
    replace bB9 := bB9.below hq (by omega)
    replace bB11 := bB11.below hq (by omega)
    replace bB12 := bB12.below hq (by omega)
    replace bB15 := bB15.below hq (by omega)
    replace bB17 := bB17.below hq (by omega)
    replace bB18 := bB18.below hq (by omega)
    replace bB20 := bB20.below hq (by omega)
    replace HR0 := hide (HR0.out.below hq (by omega))
    replace Rt := hide (Rt.out.below hq (by omega))
    replace Ru := hide (Ru.out.below hq (by omega))
    replace HB := hide (HB.out.trans (hq.mono (by omega)))
    clear hq
    have bB22 : Box w14 w13.heap.size [.int .i64 m0, .int .i64 m1, .int .i64 m2, .int .i64 m3, .int .i64 m4] := by rw [hW]; exact (box_at _ _ _ _ (by simp))
    clear hW
    obtain ⟨⟨h0, h1, h2, h3, h4⟩, hHH⟩ : ∃ z, hearV (m0, m1, m2, m3, m4) arr oth = z := ⟨_, rfl⟩
    have HH := hide hHH
    clear hHH
    obtain ⟨ch, hHCH⟩ : ∃ z, hearN (m0, m1, m2, m3, m4) oth = z := ⟨_, rfl⟩
    have HCH := hide hHCH
    clear hHCH
    refine (implHear_as m0 m1 m2 m3 m4 arr oth _ HH HCH).mono ?_
    rintro e w15 ⟨rfl, hq⟩
    have hs_w15 : w14.heap.size ≤ w15.heap.size := hq.size
    replace bB4 := bB4.below hq (by omega)
    replace bB5 := bB5.below hq (by omega)
    replace bB6 := bB6.below hq (by omega)
    replace bB7 := bB7.below hq (by omega)
    replace bB8 := bB8.below hq (by omega)
    replace bB9 := bB9.below hq (by omega)
    replace bB11 := bB11.below hq (by omega)
    replace bB12 := bB12.below hq (by omega)
    replace bB15 := bB15.below hq (by omega)
    replace bB17 := bB17.below hq (by omega)
    replace bB18 := bB18.below hq (by omega)
    replace bB20 := bB20.below hq (by omega)
    replace bB22 := bB22.below hq (by omega)
    replace HR0 := hide (HR0.out.below hq (by omega))
    replace Rt := hide (Rt.out.below hq (by omega))
    replace Ru := hide (Ru.out.below hq (by omega))
    replace HB := hide (HB.out.trans (hq.mono (by omega)))
    clear hq
    have lB22_0 : ∀ o0 : Obj, (w15.alloc o0).cell? ⟨w13.heap.size, 0, none⟩ = some (.int .i64 m0) := fun o0 => (bB22.alloc (by first | omega | (simp; omega)) o0) 0 _ rfl
    have lB22_1 : ∀ o0 : Obj, (w15.alloc o0).cell? ⟨w13.heap.size, 1, none⟩ = some (.int .i64 m1) := fun o0 => (bB22.alloc (by first | omega | (simp; omega)) o0) 1 _ rfl
    have lB22_2 : ∀ o0 : Obj, (w15.alloc o0).cell? ⟨w13.heap.size, 2, none⟩ = some (.int .i64 m2) := fun o0 => (bB22.alloc (by first | omega | (simp; omega)) o0) 2 _ rfl
    have lB22_3 : ∀ o0 : Obj, (w15.alloc o0).cell? ⟨w13.heap.size, 3, none⟩ = some (.int .i64 m3) := fun o0 => (bB22.alloc (by first | omega | (simp; omega)) o0) 3 _ rfl
    have lB22_4 : ∀ o0 : Obj, (w15.alloc o0).cell? ⟨w13.heap.size, 4, none⟩ = some (.int .i64 m4) := fun o0 => (bB22.alloc (by first | omega | (simp; omega)) o0) 4 _ rfl
    go_wp2_with fail
    clear lB22_0 lB22_1 lB22_2 lB22_3 lB22_4
    obtain ⟨w16, hW⟩ : ∃ W : World, W = (w15.alloc (.cells #[.int .i64 h0, .int .i64 h1, .int .i64 h2, .int .i64 h3, .int .i64 h4] 53)) := ⟨_, rfl⟩
    rw [← hW]
    have hs_w16 : w16.heap.size = w15.heap.size + 1 := by rw [hW]; simp
    have hq : Below w15.heap.size w15 w16 := by rw [hW]; exact ((Below.refl _ _).alloc (by first | omega | (simp <;> omega) | simp) _)
    replace bB4 := bB4.below hq (by omega)
    replace bB5 := bB5.below hq (by omega)
    replace bB6 := bB6.below hq (by omega)
    replace bB7 := bB7.below hq (by omega)
    replace bB8 := bB8.below hq (by omega)
    replace bB9 := bB9.below hq (by omega)
    replace bB11 := bB11.below hq (by omega)
    replace bB12 := bB12.below hq (by omega)
    replace bB15 := bB15.below hq (by omega)
    replace bB17 := bB17.below hq (by omega)
    replace bB18 := bB18.below hq (by omega)
    replace bB20 := bB20.below hq (by omega)
    replace bB22 := bB22.below hq (by omega)
    replace HR0 := hide (HR0.out.below hq (by omega))
    replace Rt := hide (Rt.out.below hq (by omega))
    replace Ru := hide (Ru.out.below hq (by omega))
    replace HB := hide (HB.out.trans (hq.mono (by omega)))
    clear hq
    have bB25 : Box w16 w15.heap.size [.int .i64 h0, .int .i64 h1, .int .i64 h2, .int .i64 h3, .int .i64 h4] := by rw [hW]; exact (box_at _ _ _ _ (by simp))
    clear hW
    refine (specHear_as m0 m1 m2 m3 m4 arr oth _ HH HCH).mono ?_
    rintro e w17 ⟨rfl, hq⟩
    have hs_w17 : w16.heap.size ≤ w17.heap.size := hq.size
    replace bB4 := bB4.below hq (by omega)
    replace bB5 := bB5.below hq (by omega)
    replace bB6 := bB6.below hq (by omega)
    replace bB7 := bB7.below hq (by omega)
    replace bB8 := bB8.below hq (by omega)
    replace bB9 := bB9.below hq (by omega)
    replace bB11 := bB11.below hq (by omega)
    replace bB12 := bB12.below hq (by omega)
    replace bB15 := bB15.below hq (by omega)
    replace bB17 := bB17.below hq (by omega)
    replace bB18 := bB18.below hq (by omega)
    replace bB20 := bB20.below hq (by omega)
    replace bB22 := bB22.below hq (by omega)
    replace bB25 := bB25.below hq (by omega)
    replace HR0 := hide (HR0.out.below hq (by omega))
    replace Rt := hide (Rt.out.below hq (by omega))
    replace Ru := hide (Ru.out.below hq (by omega))
    replace HB := hide (HB.out.trans (hq.mono (by omega)))
    clear hq
    have lB4_0 : ∀ o0 : Obj, (w17.alloc o0).cell? ⟨w1.heap.size, 0, none⟩ = some (.int .i64 x) := fun o0 => (bB4.alloc (by first | omega | (simp; omega)) o0) 0 _ rfl
    have lB4_1 : ∀ o0 : Obj, (w17.alloc o0).cell? ⟨w1.heap.size, 1, none⟩ = some (.int .i64 y) := fun o0 => (bB4.alloc (by first | omega | (simp; omega)) o0) 1 _ rfl
    have lB5_0 : ∀ o0 : Obj, (w17.alloc o0).cell? ⟨(w1.heap.size + 1), 0, none⟩ = some (.int .i64 a0) := fun o0 => (bB5.alloc (by first | omega | (simp; omega)) o0) 0 _ rfl
    have lB5_1 : ∀ o0 : Obj, (w17.alloc o0).cell? ⟨(w1.heap.size + 1), 1, none⟩ = some (.int .i64 a1) := fun o0 => (bB5.alloc (by first | omega | (simp; omega)) o0) 1 _ rfl
    have lB5_2 : ∀ o0 : Obj, (w17.alloc o0).cell? ⟨(w1.heap.size + 1), 2, none⟩ = some (.int .i64 a2) := fun o0 => (bB5.alloc (by first | omega | (simp; omega)) o0) 2 _ rfl
    have lB5_3 : ∀ o0 : Obj, (w17.alloc o0).cell? ⟨(w1.heap.size + 1), 3, none⟩ = some (.int .i64 a3) := fun o0 => (bB5.alloc (by first | omega | (simp; omega)) o0) 3 _ rfl
    have lB5_4 : ∀ o0 : Obj, (w17.alloc o0).cell? ⟨(w1.heap.size + 1), 4, none⟩ = some (.int .i64 a4) := fun o0 => (bB5.alloc (by first | omega | (simp; omega)) o0) 4 _ rfl
    have lB6_0 : ∀ o0 : Obj, (w17.alloc o0).cell? ⟨(w1.heap.size + 1 + 1), 0, none⟩ = some (.int .i64 d0) := fun o0 => (bB6.alloc (by first | omega | (simp; omega)) o0) 0 _ rfl
    have lB6_1 : ∀ o0 : Obj, (w17.alloc o0).cell? ⟨(w1.heap.size + 1 + 1), 1, none⟩ = some (.int .i64 d1) := fun o0 => (bB6.alloc (by first | omega | (simp; omega)) o0) 1 _ rfl
    have lB6_2 : ∀ o0 : Obj, (w17.alloc o0).cell? ⟨(w1.heap.size + 1 + 1), 2, none⟩ = some (.int .i64 d2) := fun o0 => (bB6.alloc (by first | omega | (simp; omega)) o0) 2 _ rfl
    have lB6_3 : ∀ o0 : Obj, (w17.alloc o0).cell? ⟨(w1.heap.size + 1 + 1), 3, none⟩ = some (.int .i64 d3) := fun o0 => (bB6.alloc (by first | omega | (simp; omega)) o0) 3 _ rfl
    have lB6_4 : ∀ o0 : Obj, (w17.alloc o0).cell? ⟨(w1.heap.size + 1 + 1), 4, none⟩ = some (.int .i64 d4) := fun o0 => (bB6.alloc (by first | omega | (simp; omega)) o0) 4 _ rfl
    have lB7_0 : ∀ o0 : Obj, (w17.alloc o0).cell? ⟨(w1.heap.size + 1 + 1 + 1), 0, none⟩ = some (.bool x1) := fun o0 => (bB7.alloc (by first | omega | (simp; omega)) o0) 0 _ rfl
    have lB7_1 : ∀ o0 : Obj, (w17.alloc o0).cell? ⟨(w1.heap.size + 1 + 1 + 1), 1, none⟩ = some (.bool x2) := fun o0 => (bB7.alloc (by first | omega | (simp; omega)) o0) 1 _ rfl
    have lB8_0 : ∀ o0 : Obj, (w17.alloc o0).cell? ⟨w3.heap.size, 0, none⟩ = some (.int .i64 p0) := fun o0 => (bB8.alloc (by first | omega | (simp; omega)) o0) 0 _ rfl
    have lB8_1 : ∀ o0 : Obj, (w17.alloc o0).cell? ⟨w3.heap.size, 1, none⟩ = some (.int .i64 p1) := fun o0 => (bB8.alloc (by first | omega | (simp; omega)) o0) 1 _ rfl
    have lB8_2 : ∀ o0 : Obj, (w17.alloc o0).cell? ⟨w3.heap.size, 2, none⟩ = some (.int .i64 p2) := fun o0 => (bB8.alloc (by first | omega | (simp; omega)) o0) 2 _ rfl
    have lB8_3 : ∀ o0 : Obj, (w17.alloc o0).cell? ⟨w3.heap.size, 3, none⟩ = some (.int .i64 p3) := fun o0 => (bB8.alloc (by first | omega | (simp; omega)) o0) 3 _ rfl
    have lB8_4 : ∀ o0 : Obj, (w17.alloc o0).cell? ⟨w3.heap.size, 4, none⟩ = some (.int .i64 p4) := fun o0 => (bB8.alloc (by first | omega | (simp; omega)) o0) 4 _ rfl
    have lB9_0 : ∀ o0 : Obj, (w17.alloc o0).cell? ⟨(w3.heap.size + 1), 0, none⟩ = some (.int .i64 q0) := fun o0 => (bB9.alloc (by first | omega | (simp; omega)) o0) 0 _ rfl
    have lB9_1 : ∀ o0 : Obj, (w17.alloc o0).cell? ⟨(w3.heap.size + 1), 1, none⟩ = some (.int .i64 q1) := fun o0 => (bB9.alloc (by first | omega | (simp; omega)) o0) 1 _ rfl
    have lB9_2 : ∀ o0 : Obj, (w17.alloc o0).cell? ⟨(w3.heap.size + 1), 2, none⟩ = some (.int .i64 q2) := fun o0 => (bB9.alloc (by first | omega | (simp; omega)) o0) 2 _ rfl
    have lB9_3 : ∀ o0 : Obj, (w17.alloc o0).cell? ⟨(w3.heap.size + 1), 3, none⟩ = some (.int .i64 q3) := fun o0 => (bB9.alloc (by first | omega | (simp; omega)) o0) 3 _ rfl
    have lB9_4 : ∀ o0 : Obj, (w17.alloc o0).cell? ⟨(w3.heap.size + 1), 4, none⟩ = some (.int .i64 q4) := fun o0 => (bB9.alloc (by first | omega | (simp; omega)) o0) 4 _ rfl
    have lB11_0 : ∀ o0 : Obj, (w17.alloc o0).cell? ⟨w5.heap.size, 0, none⟩ = some (.int .i64 p0) := fun o0 => (bB11.alloc (by first | omega | (simp; omega)) o0) 0 _ rfl
    have lB11_1 : ∀ o0 : Obj, (w17.alloc o0).cell? ⟨w5.heap.size, 1, none⟩ = some (.int .i64 p1) := fun o0 => (bB11.alloc (by first | omega | (simp; omega)) o0) 1 _ rfl
    have lB11_2 : ∀ o0 : Obj, (w17.alloc o0).cell? ⟨w5.heap.size, 2, none⟩ = some (.int .i64 p2) := fun o0 => (bB11.alloc (by first | omega | (simp; omega)) o0) 2 _ rfl
    have lB11_3 : ∀ o0 : Obj, (w17.alloc o0).cell? ⟨w5.heap.size, 3, none⟩ = some (.int .i64 p3) := fun o0 => (bB11.alloc (by first | omega | (simp; omega)) o0) 3 _ rfl
    have lB11_4 : ∀ o0 : Obj, (w17.alloc o0).cell? ⟨w5.heap.size, 4, none⟩ = some (.int .i64 p4) := fun o0 => (bB11.alloc (by first | omega | (simp; omega)) o0) 4 _ rfl
    have lB12_0 : ∀ o0 : Obj, (w17.alloc o0).cell? ⟨(w5.heap.size + 1), 0, none⟩ = some (.int .i64 q0) := fun o0 => (bB12.alloc (by first | omega | (simp; omega)) o0) 0 _ rfl
    have lB12_1 : ∀ o0 : Obj, (w17.alloc o0).cell? ⟨(w5.heap.size + 1), 1, none⟩ = some (.int .i64 q1) := fun o0 => (bB12.alloc (by first | omega | (simp; omega)) o0) 1 _ rfl
    have lB12_2 : ∀ o0 : Obj, (w17.alloc o0).cell? ⟨(w5.heap.size + 1), 2, none⟩ = some (.int .i64 q2) := fun o0 => (bB12.alloc (by first | omega | (simp; omega)) o0) 2 _ rfl
    have lB12_3 : ∀ o0 : Obj, (w17.alloc o0).cell? ⟨(w5.heap.size + 1), 3, none⟩ = some (.int .i64 q3) := fun o0 => (bB12.alloc (by first | omega | (simp; omega)) o0) 3 _ rfl
    have lB12_4 : ∀ o0 : Obj, (w17.alloc o0).cell? ⟨(w5.heap.size + 1), 4, none⟩ = some (.int .i64 q4) := fun o0 => (bB12.alloc (by first | omega | (simp; omega)) o0) 4 _ rfl
    have lB18_0 : ∀ o0 : Obj, (w17.alloc o0).cell? ⟨w9.heap.size, 0, none⟩ = some (.int .i64 k0) := fun o0 => (bB18.alloc (by first | omega | (simp; omega)) o0) 0 _ rfl
    have lB18_1 : ∀ o0 : Obj, (w17.alloc o0).cell? ⟨w9.heap.size, 1, none⟩ = some (.int .i64 k1) := fun o0 => (bB18.alloc (by first | omega | (simp; omega)) o0) 1 _ rfl
    have lB18_2 : ∀ o0 : Obj, (w17.alloc o0).cell? ⟨w9.heap.size, 2, none⟩ = some (.int .i64 k2) := fun o0 => (bB18.alloc (by first | omega | (simp; omega)) o0) 2 _ rfl
    have lB18_3 : ∀ o0 : Obj, (w17.alloc o0).cell? ⟨w9.heap.size, 3, none⟩ = some (.int .i64 k3) := fun o0 => (bB18.alloc (by first | omega | (simp; omega)) o0) 3 _ rfl
    have lB18_4 : ∀ o0 : Obj, (w17.alloc o0).cell? ⟨w9.heap.size, 4, none⟩ = some (.int .i64 k4) := fun o0 => (bB18.alloc (by first | omega | (simp; omega)) o0) 4 _ rfl
    have lB20_0 : ∀ o0 : Obj, (w17.alloc o0).cell? ⟨w11.heap.size, 0, none⟩ = some (.int .i64 k0) := fun o0 => (bB20.alloc (by first | omega | (simp; omega)) o0) 0 _ rfl
    have lB20_1 : ∀ o0 : Obj, (w17.alloc o0).cell? ⟨w11.heap.size, 1, none⟩ = some (.int .i64 k1) := fun o0 => (bB20.alloc (by first | omega | (simp; omega)) o0) 1 _ rfl
    have lB20_2 : ∀ o0 : Obj, (w17.alloc o0).cell? ⟨w11.heap.size, 2, none⟩ = some (.int .i64 k2) := fun o0 => (bB20.alloc (by first | omega | (simp; omega)) o0) 2 _ rfl
    have lB20_3 : ∀ o0 : Obj, (w17.alloc o0).cell? ⟨w11.heap.size, 3, none⟩ = some (.int .i64 k3) := fun o0 => (bB20.alloc (by first | omega | (simp; omega)) o0) 3 _ rfl
    have lB20_4 : ∀ o0 : Obj, (w17.alloc o0).cell? ⟨w11.heap.size, 4, none⟩ = some (.int .i64 k4) := fun o0 => (bB20.alloc (by first | omega | (simp; omega)) o0) 4 _ rfl
    have lB25_0 : ∀ o0 : Obj, (w17.alloc o0).cell? ⟨w15.heap.size, 0, none⟩ = some (.int .i64 h0) := fun o0 => (bB25.alloc (by first | omega | (simp; omega)) o0) 0 _ rfl
    have lB25_1 : ∀ o0 : Obj, (w17.alloc o0).cell? ⟨w15.heap.size, 1, none⟩ = some (.int .i64 h1) := fun o0 => (bB25.alloc (by first | omega | (simp; omega)) o0) 1 _ rfl
    have lB25_2 : ∀ o0 : Obj, (w17.alloc o0).cell? ⟨w15.heap.size, 2, none⟩ = some (.int .i64 h2) := fun o0 => (bB25.alloc (by first | omega | (simp; omega)) o0) 2 _ rfl
    have lB25_3 : ∀ o0 : Obj, (w17.alloc o0).cell? ⟨w15.heap.size, 3, none⟩ = some (.int .i64 h3) := fun o0 => (bB25.alloc (by first | omega | (simp; omega)) o0) 3 _ rfl
    have lB25_4 : ∀ o0 : Obj, (w17.alloc o0).cell? ⟨w15.heap.size, 4, none⟩ = some (.int .i64 h4) := fun o0 => (bB25.alloc (by first | omega | (simp; omega)) o0) 4 _ rfl
    by_cases hcc : cc = 0
    · subst hcc
      go_wp2_with fail
      clear lB4_0 lB4_1 lB5_0 lB5_1 lB5_2 lB5_3 lB5_4 lB6_0 lB6_1 lB6_2 lB6_3 lB6_4 lB7_0 lB7_1 lB8_0 lB8_1 lB8_2 lB8_3 lB8_4 lB9_0 lB9_1 lB9_2 lB9_3 lB9_4 lB11_0 lB11_1 lB11_2 lB11_3 lB11_4 lB12_0 lB12_1 lB12_2 lB12_3 lB12_4 lB18_0 lB18_1 lB18_2 lB18_3 lB18_4 lB20_0 lB20_1 lB20_2 lB20_3 lB20_4 lB25_0 lB25_1 lB25_2 lB25_3 lB25_4
      obtain ⟨w18, hW⟩ : ∃ W : World, W = (w17.alloc (.cells #[.int .i64 h0, .int .i64 h1, .int .i64 h2, .int .i64 h3, .int .i64 h4] 53)) := ⟨_, rfl⟩
      rw [← hW]
      have hs_w18 : w18.heap.size = w17.heap.size + 1 := by rw [hW]; simp
      have hq : Below w17.heap.size w17 w18 := by rw [hW]; exact ((Below.refl _ _).alloc (by first | omega | (simp <;> omega) | simp) _)
      replace bB4 := bB4.below hq (by omega)
      replace bB5 := bB5.below hq (by omega)
      replace bB6 := bB6.below hq (by omega)
      replace bB7 := bB7.below hq (by omega)
      replace bB8 := bB8.below hq (by omega)
      replace bB9 := bB9.below hq (by omega)
      replace bB11 := bB11.below hq (by omega)
      replace bB12 := bB12.below hq (by omega)
      replace bB15 := bB15.below hq (by omega)
      replace bB17 := bB17.below hq (by omega)
      replace bB18 := bB18.below hq (by omega)
      replace bB20 := bB20.below hq (by omega)
      replace bB22 := bB22.below hq (by omega)
      replace bB25 := bB25.below hq (by omega)
      replace HR0 := hide (HR0.out.below hq (by omega))
      replace Rt := hide (Rt.out.below hq (by omega))
      replace Ru := hide (Ru.out.below hq (by omega))
      replace HB := hide (HB.out.trans (hq.mono (by omega)))
      clear hq
      have bB27 : Box w18 w17.heap.size [.int .i64 h0, .int .i64 h1, .int .i64 h2, .int .i64 h3, .int .i64 h4] := by rw [hW]; exact (box_at _ _ _ _ (by simp))
      clear hW
      clear bB11
      clear bB12
      clear bB15
      clear bB17
      clear bB18
      clear bB20
      clear bB22
      clear bB25
      clear bB27
      clear Ru
      obtain ⟨r1, r2, r3, r4, r5, r6⟩ := round_parts HC.out HP.out
      obtain ⟨⟨u0, u1, u2, u3, u4⟩, hHU⟩ : ∃ z, hearV (a0, a1, a2, a3, a4) x1 d0 = z := ⟨_, rfl⟩
      have HU := hide hHU
      clear hHU
      obtain ⟨⟨v0, v1, v2, v3, v4⟩, hHV⟩ : ∃ z, hearV (d0, d1, d2, d3, d4) x2 a0 = z := ⟨_, rfl⟩
      have HV := hide hHV
      clear hHV
      have E1 : Hid (hearN (a0, a1, a2, a3, a4) d0 = 0) := hide r1
      have E2 : Hid (hearN (d0, d1, d2, d3, d4) a0 = 0) := hide r2
      have E3 : Hid (codeC Tt x y [(u0, u1, u2, u3, u4)] = 0) := hide (by rw [← HU.out]; exact r3)
      have E4 : Hid (codeC Tt x y [(v0, v1, v2, v3, v4)] = 0) := hide (by rw [← HV.out]; exact r4)
      have E5 : Hid (stepV Tt x y true (u0, u1, u2, u3, u4) = (p0, p1, p2, p3, p4)) := hide (by rw [← HU.out]; exact r5)
      have E6 : Hid (stepV Tt x y false (v0, v1, v2, v3, v4) = (q0, q1, q2, q3, q4)) := hide (by rw [← HV.out]; exact r6)
      clear r1 r2 r3 r4 r5 r6
      refine (implHear_as a0 a1 a2 a3 a4 x1 d0 _ HU E1).mono ?_
      rintro e w19 ⟨rfl, hq⟩
      have hs_w19 : w18.heap.size ≤ w19.heap.size := hq.size
      replace bB4 := bB4.below hq (by omega)
      replace bB5 := bB5.below hq (by omega)
      replace bB6 := bB6.below hq (by omega)
      replace bB7 := bB7.below hq (by omega)
      replace bB8 := bB8.below hq (by omega)
      replace bB9 := bB9.below hq (by omega)
      replace HR0 := hide (HR0.out.below hq (by omega))
      replace Rt := hide (Rt.out.below hq (by omega))
      replace HB := hide (HB.out.trans (hq.mono (by omega)))
      clear hq
      have lB5_0 : ∀ o0 : Obj, (w19.alloc o0).cell? ⟨(w1.heap.size + 1), 0, none⟩ = some (.int .i64 a0) := fun o0 => (bB5.alloc (by first | omega | (simp; omega)) o0) 0 _ rfl
      have lB5_1 : ∀ o0 : Obj, (w19.alloc o0).cell? ⟨(w1.heap.size + 1), 1, none⟩ = some (.int .i64 a1) := fun o0 => (bB5.alloc (by first | omega | (simp; omega)) o0) 1 _ rfl
      have lB5_2 : ∀ o0 : Obj, (w19.alloc o0).cell? ⟨(w1.heap.size + 1), 2, none⟩ = some (.int .i64 a2) := fun o0 => (bB5.alloc (by first | omega | (simp; omega)) o0) 2 _ rfl
      have lB5_3 : ∀ o0 : Obj, (w19.alloc o0).cell? ⟨(w1.heap.size + 1), 3, none⟩ = some (.int .i64 a3) := fun o0 => (bB5.alloc (by first | omega | (simp; omega)) o0) 3 _ rfl
      have lB5_4 : ∀ o0 : Obj, (w19.alloc o0).cell? ⟨(w1.heap.size + 1), 4, none⟩ = some (.int .i64 a4) := fun o0 => (bB5.alloc (by first | omega | (simp; omega)) o0) 4 _ rfl
      have lB6_0 : ∀ o0 : Obj, (w19.alloc o0).cell? ⟨(w1.heap.size + 1 + 1), 0, none⟩ = some (.int .i64 d0) := fun o0 => (bB6.alloc (by first | omega | (simp; omega)) o0) 0 _ rfl
      have lB6_1 : ∀ o0 : Obj, (w19.alloc o0).cell? ⟨(w1.heap.size + 1 + 1), 1, none⟩ = some (.int .i64 d1) := fun o0 => (bB6.alloc (by first | omega | (simp; omega)) o0) 1 _ rfl
      have lB6_2 : ∀ o0 : Obj, (w19.alloc o0).cell? ⟨(w1.heap.size + 1 + 1), 2, none⟩ = some (.int .i64 d2) := fun o0 => (bB6.alloc (by first | omega | (simp; omega)) o0) 2 _ rfl
      have lB6_3 : ∀ o0 : Obj, (w19.alloc o0).cell? ⟨(w1.heap.size + 1 + 1), 3, none⟩ = some (.int .i64 d3) := fun o0 => (bB6.alloc (by first | omega | (simp; omega)) o0) 3 _ rfl
      have lB6_4 : ∀ o0 : Obj, (w19.alloc o0).cell? ⟨(w1.heap.size + 1 + 1), 4, none⟩ = some (.int .i64 d4) := fun o0 => (bB6.alloc (by first | omega | (simp; omega)) o0) 4 _ rfl
      have lB7_0 : ∀ o0 : Obj, (w19.alloc o0).cell? ⟨(w1.heap.size + 1 + 1 + 1), 0, none⟩ = some (.bool x1) := fun o0 => (bB7.alloc (by first | omega | (simp; omega)) o0) 0 _ rfl
      have lB7_1 : ∀ o0 : Obj, (w19.alloc o0).cell? ⟨(w1.heap.size + 1 + 1 + 1), 1, none⟩ = some (.bool x2) := fun o0 => (bB7.alloc (by first | omega | (simp; omega)) o0) 1 _ rfl
      go_wp2_with fail
      clear lB5_0 lB5_1 lB5_2 lB5_3 lB5_4 lB6_0 lB6_1 lB6_2 lB6_3 lB6_4 lB7_0 lB7_1
      obtain ⟨w20, hW⟩ : ∃ W : World, W = (w19.alloc (.cells #[.int .i64 u0, .int .i64 u1, .int .i64 u2, .int .i64 u3, .int .i64 u4] 53)) := ⟨_, rfl⟩
      rw [← hW]
      have hs_w20 : w20.heap.size = w19.heap.size + 1 := by rw [hW]; simp
      have hq : Below w19.heap.size w19 w20 := by rw [hW]; exact ((Below.refl _ _).alloc (by first | omega | (simp <;> omega) | simp) _)
      replace bB4 := bB4.below hq (by omega)
      replace bB5 := bB5.below hq (by omega)
      replace bB6 := bB6.below hq (by omega)
      replace bB7 := bB7.below hq (by omega)
      replace bB8 := bB8.below hq (by omega)
      replace bB9 := bB9.below hq (by omega)
      replace HR0 := hide (HR0.out.below hq (by omega))
      replace Rt := hide (Rt.out.below hq (by omega))
      replace HB := hide (HB.out.trans (hq.mono (by omega)))
      clear hq
      have bB29 : Box w20 w19.heap.size [.int .i64 u0, .int .i64 u1, .int .i64 u2, .int .i64 u3, .int .i64 u4] := by rw [hW]; exact (box_at _ _ _ _ (by simp))
      clear hW
      refine (implHear_as d0 d1 d2 d3 d4 x2 a0 _ HV E2).mono ?_
      rintro e w21 ⟨rfl, hq⟩
      have hs_w21 : w20.heap.size ≤ w21.heap.size := hq.size
      replace bB4 := bB4.below hq (by omega)
      replace bB5 := bB5.below hq (by omega)
      replace bB6 := bB6.below hq (by omega)
      replace bB7 := bB7.below hq (by omega)
      replace bB8 := bB8.below hq (by omega)
      replace bB9 := bB9.below hq (by omega)
      replace bB29 := bB29.below hq (by omega)
      replace HR0 := hide (HR0.out.below hq (by omega))
      replace Rt := hide (Rt.out.below hq (by omega))
      replace HB := hide (HB.out.trans (hq.mono (by omega)))
      clear hq
      have lB4_0 : ∀ o0 : Obj, (w21.alloc o0).cell? ⟨w1.heap.size, 0, none⟩ = some (.int .i64 x) := fun o0 => (bB4.alloc (by first | omega | (simp; omega)) o0) 0 _ rfl
      have lB4_1 : ∀ o0 : Obj, (w21.alloc o0).cell? ⟨w1.heap.size, 1, none⟩ = some (.int .i64 y) := fun o0 => (bB4.alloc (by first | omega | (simp; omega)) o0) 1 _ rfl
      have lB29_0 : ∀ o0 : Obj, (w21.alloc o0).cell? ⟨w19.heap.size, 0, none⟩ = some (.int .i64 u0) := fun o0 => (bB29.alloc (by first | omega | (simp; omega)) o0) 0 _ rfl
      have lB29_1 : ∀ o0 : Obj, (w21.alloc o0).cell? ⟨w19.heap.size, 1, none⟩ = some (.int .i64 u1) := fun o0 => (bB29.alloc (by first | omega | (simp; omega)) o0) 1 _ rfl
      have lB29_2 : ∀ o0 : Obj, (w21.alloc o0).cell? ⟨w19.heap.size, 2, none⟩ = some (.int .i64 u2) := fun o0 => (bB29.alloc (by first | omega | (simp; omega)) o0) 2 _ rfl
      have lB29_3 : ∀ o0 : Obj, (w21.alloc o0).cell? ⟨w19.heap.size, 3, none⟩ = some (.int .i64 u3) := fun o0 => (bB29.alloc (by first | omega | (simp; omega)) o0) 3 _ rfl
      have lB29_4 : ∀ o0 : Obj, (w21.alloc o0).cell? ⟨w19.heap.size, 4, none⟩ = some (.int .i64 u4) := fun o0 => (bB29.alloc (by first | omega | (simp; omega)) o0) 4 _ rfl
      go_wp2_with fail
      clear lB4_0 lB4_1 lB29_0 lB29_1 lB29_2 lB29_3 lB29_4
      obtain ⟨w22, hW⟩ : ∃ W : World, W = (w21.alloc (.cells #[.int .i64 v0, .int .i64 v1, .int .i64 v2, .int .i64 v3, .int .i64 v4] 53)) := ⟨_, rfl⟩
      rw [← hW]
      have hs_w22 : w22.heap.size = w21.heap.size + 1 := by rw [hW]; simp
      have hq : Below w21.heap.size w21 w22 := by rw [hW]; exact ((Below.refl _ _).alloc (by first | omega | (simp <;> omega) | simp) _)
      replace bB4 := bB4.below hq (by omega)
      replace bB5 := bB5.below hq (by omega)
      replace bB6 := bB6.below hq (by omega)
      replace bB7 := bB7.below hq (by omega)
      replace bB8 := bB8.below hq (by omega)
      replace bB9 := bB9.below hq (by omega)
      replace bB29 := bB29.below hq (by omega)
      replace HR0 := hide (HR0.out.below hq (by omega))
      replace Rt := hide (Rt.out.below hq (by omega))
      replace HB := hide (HB.out.trans (hq.mono (by omega)))
      clear hq
      have bB31 : Box w22 w21.heap.size [.int .i64 v0, .int .i64 v1, .int .i64 v2, .int .i64 v3, .int .i64 v4] := by rw [hW]; exact (box_at _ _ _ _ (by simp))
      clear hW
      refine (implStep_as At nt ct _ _ Tt hmt x y true u0 u1 u2 u3 u4 _ E5 E3 Rt.out (by omega)).mono ?_
      rintro e w23 ⟨rfl, hq⟩
      have hs_w23 : w22.heap.size ≤ w23.heap.size := hq.size
      replace bB4 := bB4.below hq (by omega)
      replace bB5 := bB5.below hq (by omega)
      replace bB6 := bB6.below hq (by omega)
      replace bB7 := bB7.below hq (by omega)
      replace bB8 := bB8.below hq (by omega)
      replace bB9 := bB9.below hq (by omega)
      replace bB29 := bB29.below hq (by omega)
      replace bB31 := bB31.below hq (by omega)
      replace HR0 := hide (HR0.out.below hq (by omega))
      replace Rt := hide (Rt.out.below hq (by omega))
      replace HB := hide (HB.out.trans (hq.mono (by omega)))
      clear hq
      have lB4_0 : ∀ o0 : Obj, (w23.alloc o0).cell? ⟨w1.heap.size, 0, none⟩ = some (.int .i64 x) := fun o0 => (bB4.alloc (by first | omega | (simp; omega)) o0) 0 _ rfl
      have lB4_1 : ∀ o0 : Obj, (w23.alloc o0).cell? ⟨w1.heap.size, 1, none⟩ = some (.int .i64 y) := fun o0 => (bB4.alloc (by first | omega | (simp; omega)) o0) 1 _ rfl
      have lB31_0 : ∀ o0 : Obj, (w23.alloc o0).cell? ⟨w21.heap.size, 0, none⟩ = some (.int .i64 v0) := fun o0 => (bB31.alloc (by first | omega | (simp; omega)) o0) 0 _ rfl
      have lB31_1 : ∀ o0 : Obj, (w23.alloc o0).cell? ⟨w21.heap.size, 1, none⟩ = some (.int .i64 v1) := fun o0 => (bB31.alloc (by first | omega | (simp; omega)) o0) 1 _ rfl
      have lB31_2 : ∀ o0 : Obj, (w23.alloc o0).cell? ⟨w21.heap.size, 2, none⟩ = some (.int .i64 v2) := fun o0 => (bB31.alloc (by first | omega | (simp; omega)) o0) 2 _ rfl
      have lB31_3 : ∀ o0 : Obj, (w23.alloc o0).cell? ⟨w21.heap.size, 3, none⟩ = some (.int .i64 v3) := fun o0 => (bB31.alloc (by first | omega | (simp; omega)) o0) 3 _ rfl
      have lB31_4 : ∀ o0 : Obj, (w23.alloc o0).cell? ⟨w21.heap.size, 4, none⟩ = some (.int .i64 v4) := fun o0 => (bB31.alloc (by first | omega | (simp; omega)) o0) 4 _ rfl
      go_wp2_with fail
      clear lB4_0 lB4_1 lB31_0 lB31_1 lB31_2 lB31_3 lB31_4
      obtain ⟨w24, hW⟩ : ∃ W : World, W = (w23.alloc (.cells #[.int .i64 p0, .int .i64 p1, .int .i64 p2, .int .i64 p3, .int .i64 p4] 53)) := ⟨_, rfl⟩
      rw [← hW]
      have hs_w24 : w24.heap.size = w23.heap.size + 1 := by rw [hW]; simp
      have hq : Below w23.heap.size w23 w24 := by rw [hW]; exact ((Below.refl _ _).alloc (by first | omega | (simp <;> omega) | simp) _)
      replace bB4 := bB4.below hq (by omega)
      replace bB5 := bB5.below hq (by omega)
      replace bB6 := bB6.below hq (by omega)
      replace bB7 := bB7.below hq (by omega)
      replace bB8 := bB8.below hq (by omega)
      replace bB9 := bB9.below hq (by omega)
      replace bB29 := bB29.below hq (by omega)
      replace bB31 := bB31.below hq (by omega)
      replace HR0 := hide (HR0.out.below hq (by omega))
      replace Rt := hide (Rt.out.below hq (by omega))
      replace HB := hide (HB.out.trans (hq.mono (by omega)))
      clear hq
      have bB33 : Box w24 w23.heap.size [.int .i64 p0, .int .i64 p1, .int .i64 p2, .int .i64 p3, .int .i64 p4] := by rw [hW]; exact (box_at _ _ _ _ (by simp))
      clear hW
      refine (implStep_as At nt ct _ _ Tt hmt x y false v0 v1 v2 v3 v4 _ E6 E4 Rt.out (by omega)).mono ?_
      rintro e w25 ⟨rfl, hq⟩
      have hs_w25 : w24.heap.size ≤ w25.heap.size := hq.size
      replace bB4 := bB4.below hq (by omega)
      replace bB5 := bB5.below hq (by omega)
      replace bB6 := bB6.below hq (by omega)
      replace bB7 := bB7.below hq (by omega)
      replace bB8 := bB8.below hq (by omega)
      replace bB9 := bB9.below hq (by omega)
      replace bB29 := bB29.below hq (by omega)
      replace bB31 := bB31.below hq (by omega)
      replace bB33 := bB33.below hq (by omega)
      replace HR0 := hide (HR0.out.below hq (by omega))
      replace Rt := hide (Rt.out.below hq (by omega))
      replace HB := hide (HB.out.trans (hq.mono (by omega)))
      clear hq
      have lB8_0 : ∀ o0 : Obj, (w25.alloc o0).cell? ⟨w3.heap.size, 0, none⟩ = some (.int .i64 p0) := fun o0 => (bB8.alloc (by first | omega | (simp; omega)) o0) 0 _ rfl
      have lB8_1 : ∀ o0 : Obj, (w25.alloc o0).cell? ⟨w3.heap.size, 1, none⟩ = some (.int .i64 p1) := fun o0 => (bB8.alloc (by first | omega | (simp; omega)) o0) 1 _ rfl
      have lB8_2 : ∀ o0 : Obj, (w25.alloc o0).cell? ⟨w3.heap.size, 2, none⟩ = some (.int .i64 p2) := fun o0 => (bB8.alloc (by first | omega | (simp; omega)) o0) 2 _ rfl
      have lB8_3 : ∀ o0 : Obj, (w25.alloc o0).cell? ⟨w3.heap.size, 3, none⟩ = some (.int .i64 p3) := fun o0 => (bB8.alloc (by first | omega | (simp; omega)) o0) 3 _ rfl
      have lB8_4 : ∀ o0 : Obj, (w25.alloc o0).cell? ⟨w3.heap.size, 4, none⟩ = some (.int .i64 p4) := fun o0 => (bB8.alloc (by first | omega | (simp; omega)) o0) 4 _ rfl
      have lB9_0 : ∀ o0 : Obj, (w25.alloc o0).cell? ⟨(w3.heap.size + 1), 0, none⟩ = some (.int .i64 q0) := fun o0 => (bB9.alloc (by first | omega | (simp; omega)) o0) 0 _ rfl
      have lB9_1 : ∀ o0 : Obj, (w25.alloc o0).cell? ⟨(w3.heap.size + 1), 1, none⟩ = some (.int .i64 q1) := fun o0 => (bB9.alloc (by first | omega | (simp; omega)) o0) 1 _ rfl
      have lB9_2 : ∀ o0 : Obj, (w25.alloc o0).cell? ⟨(w3.heap.size + 1), 2, none⟩ = some (.int .i64 q2) := fun o0 => (bB9.alloc (by first | omega | (simp; omega)) o0) 2 _ rfl
      have lB9_3 : ∀ o0 : Obj, (w25.alloc o0).cell? ⟨(w3.heap.size + 1), 3, none⟩ = some (.int .i64 q3) := fun o0 => (bB9.alloc (by first | omega | (simp; omega)) o0) 3 _ rfl
      have lB9_4 : ∀ o0 : Obj, (w25.alloc o0).cell? ⟨(w3.heap.size + 1), 4, none⟩ = some (.int .i64 q4) := fun o0 => (bB9.alloc (by first | omega | (simp; omega)) o0) 4 _ rfl
      have lB33_0 : ∀ o0 : Obj, (w25.alloc o0).cell? ⟨w23.heap.size, 0, none⟩ = some (.int .i64 p0) := fun o0 => (bB33.alloc (by first | omega | (simp; omega)) o0) 0 _ rfl
      have lB33_1 : ∀ o0 : Obj, (w25.alloc o0).cell? ⟨w23.heap.size, 1, none⟩ = some (.int .i64 p1) := fun o0 => (bB33.alloc (by first | omega | (simp; omega)) o0) 1 _ rfl
      have lB33_2 : ∀ o0 : Obj, (w25.alloc o0).cell? ⟨w23.heap.size, 2, none⟩ = some (.int .i64 p2) := fun o0 => (bB33.alloc (by first | omega | (simp; omega)) o0) 2 _ rfl
      have lB33_3 : ∀ o0 : Obj, (w25.alloc o0).cell? ⟨w23.heap.size, 3, none⟩ = some (.int .i64 p3) := fun o0 => (bB33.alloc (by first | omega | (simp; omega)) o0) 3 _ rfl
      have lB33_4 : ∀ o0 : Obj, (w25.alloc o0).cell? ⟨w23.heap.size, 4, none⟩ = some (.int .i64 p4) := fun o0 => (bB33.alloc (by first | omega | (simp; omega)) o0) 4 _ rfl
      go_wp2_with fail
      go_ret
      exact ⟨rfl, HB.out.alloc (by omega) _⟩
    · go_wp2_with fail
      go_ret
      exact ⟨rfl, HB.out.alloc (by omega) _⟩
  · have HR0 := hide hr0
    clear hr0 hw0 hl0
    go_enter Try.func5, Try.ntmps5
    go_wp2_with fail
    refine (g6yes A0 n0 c0 (by omega) _).mono ?_
    rintro e w' ⟨rfl, rfl⟩
    go_wp2_with fail
    go_ret
    exact ⟨rfl, Below.refl _ _⟩

set_option maxRecDepth 100000 in
theorem lifted (os : Os) (started : os.Started) (H : Type) (enc : TypeId × Value → H) :
    ReturnsInHanded {} Try.checked os 5 .any (Rows.fnRoundsSpec.pre6 enc Try.prog Try.f5 Rows.fnRoundsRow.domain false) (Rows.fnRoundsSpec.post enc Try.prog Try.f5 false true false false) := by
  refine returnsInHanded_of_change (C := Try.checked) own started (by kernel_rfl) Try.func5
    (ChangeSpec.witness6 (enc := enc) (C := Try.checked) false ⟨#[], #[.slice none 0 0], []⟩ 8 (by kernel_rfl) (by kernel_rfl) (by kernel_rfl) (by kernel_rfl)) ?_
  intro W base args ds gs before hval0 hW hcnd _
  have hval : ∀ (j : Nat) t v, Try.f5.params[j]? = some t → args[j]? = some v → Value.okWide Try.prog W .any base t v := hval0
  have hW' := hW
  obtain ⟨p, q, hA0, hV, rfl, hfz, hnd⟩ := hW
  have hA : DataW.TrodAll enc Try.prog W 0 (fun _ => true) true Try.f5.params.toList args.toList ds p := hA0
  rw [Try.params5] at hA hval
  obtain ⟨v0, vs0, d0, ds0, p0, q0, hargs, rfl, rfl, h0, r0⟩ := trodAll_cons hA
  obtain ⟨rfl, rfl, rfl⟩ := trodAll_nil r0
  obtain rfl : args = #[v0] := by cases args; simp_all
  obtain ⟨rfl, rfl⟩ := trodVars_none hV
  obtain ⟨A0, n0, c0, l0, rfl, hnc0, hcm0, hl0, hr0, hw0⟩ := open_ByteS (hval 0 22 v0 rfl rfl) h0
  clear hA0 hval0
  refine (walk W A0 n0 c0 l0 hl0 (Nat.le_trans hnc0 hcm0) hr0 hw0).mono fun e W' ⟨he, hB⟩ => ?_
  subst he
  exact ⟨_, rfl, law_post laidOut Try.underlying4 rfl (by kernel_rfl) (by kernel_rfl) hW' rfl rfl rfl hB⟩

theorem proved : Rows.FnRoundsSaid :=
  OpenClaim.holds_of_wide 5 Try.f5 rfl rfl rfl rfl rfl rfl rfl ⟨rfl, rfl, rfl, rfl, rfl⟩ rfl rfl rfl rfl rfl (by kernel_rfl) Try.func5 (joined rfl rfl rfl (by kernel_rfl))
    (of_decide_eq_true (by kernel_rfl)) (by unfold Func.isWrapper; first | (rw [if_pos (by decide +kernel)]; kernel_rfl) | (rw [if_neg (by decide +kernel)]; exact ⟨rfl, rfl⟩))
    (fun os started H enc _ => lifted os started H enc)
#print axioms proved
end fnRounds
end Go.Proofs.Ytnbahmjimnhfbaa
