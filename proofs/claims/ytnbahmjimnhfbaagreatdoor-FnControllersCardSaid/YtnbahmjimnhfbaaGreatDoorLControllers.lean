/-
  FnControllers: the law answers true at every input, and the input reads behind the call as it read before. No condition.
-/
import Derived.Test.YtnbahmjimnhfbaaGreatDoorFrame
import Derived.Test.YtnbahmjimnhfbaaGreatDoorFacts
import Derived.WalkKit
import Derived.WalkSpells
import Derived.WalkLawsBesides
import Derived.Deep.RegionWith
import Derived.Deep.DeepCutAuto
import Derived.Test.YtnbahmjimnhfbaaGreatDoorOpnByte
import Derived.Test.YtnbahmjimnhfbaaGreatDoorDrawM
import Derived.Test.YtnbahmjimnhfbaaGreatDoorCtl
import Derived.Test.YtnbahmjimnhfbaaGreatDoorSafe
import Derived.LaidMore
import Derived.Stop.Joined
import Derived.Stop.LaidErr
import Derived.SevenTiedAt
import Derived.Test.YtnbahmjimnhfbaaGreatDoorCards
import Derived.Test.YtnbahmjimnhfbaaGreatDoorTie
namespace Go.Proofs.YtnbahmjimnhfbaaGreatDoor
open Go.ChangeShapes Go.WideShapes Go.ChangeAt Go.RowKit
namespace fnControllers
set_option linter.unusedVariables false
set_option linter.unusedSimpArgs false
set_option maxRecDepth 100000 in
set_option maxHeartbeats 20000000 in
theorem walk (w : World) (A0 : Option Addr) (n0 c0 : Nat) (l0 : List (Int)) (hl0 : l0.length = n0) (hm0 : n0 ≤ maxLen) (hr0 : Rd w 0 w.heap.size 1 A0 n0 (rByte l0)) (hw0 : ∀ p ∈ l0, (Lit.int .u8 p).wf = true) (ht : Tb w) :
    Calls Tryz.prog 3 #[.slice A0 n0 c0] w fun e w' => e = .returned (.bool true) ∧ Below w.heap.size w w' := by
  by_cases hn0 : n0 ≤ 4096
  · have hv0 := rByte_u8 hw0
    have HV0 := hide hv0
    have HR0 := hide hr0
    have HTb := hide ht
    have HB := hide (Below.refl w.heap.size w)
    clear hw0 hv0 hl0 hr0 ht
    go_enter Tryz.func3, Tryz.ntmps3
    go_wp2_with fail
    refine (c6no A0 n0 c0 hn0 _).mono ?_
    rintro e w' ⟨rfl, rfl⟩
    go_wp2_with fail
    refine (DrawRunRounds_g A0 n0 c0 w.heap.size _ hm0 _ HR0.out (by omega) HV0.out).mono ?_
    rintro e w1 ⟨v, x, y, a0, a1, a2, a3, a4, d0, d1, d2, d3, d4, A', n', c', L, rfl, hL, hn', hrl, hv, hq⟩
    have hs_w1 : w.heap.size ≤ w1.heap.size := hq.size
    replace HR0 := hide (HR0.out.below hq (by omega))
    replace HTb := hide (HTb.out.below hq (by omega))
    replace HB := hide (HB.out.trans (hq.mono (by omega)))
    clear hq
    have RL := hide hrl
    clear hrl
    obtain ⟨At, nt, ct, Tt, rfl, hmt, hrt⟩ := hv
    have Rt := hide hrt
    clear hrt
    go_wp2_with fail
    obtain ⟨w2, hW⟩ : ∃ W : World, W = (((w1.alloc (.cells #[.int .i64 x, .int .i64 y] 26)).alloc (.cells #[.int .i64 a0, .int .i64 a1, .int .i64 a2, .int .i64 a3, .int .i64 a4] 28)).alloc (.cells #[.int .i64 d0, .int .i64 d1, .int .i64 d2, .int .i64 d3, .int .i64 d4] 28)) := ⟨_, rfl⟩
    rw [← hW]
    have hs_w2 : w2.heap.size = w1.heap.size + 3 := by rw [hW]; simp
    have hq : Below w1.heap.size w1 w2 := by rw [hW]; exact ((((Below.refl _ _).alloc (by first | omega | (simp <;> omega) | simp) _).alloc (by first | omega | (simp <;> omega) | simp) _).alloc (by first | omega | (simp <;> omega) | simp) _)
    replace HR0 := hide (HR0.out.below hq (by omega))
    replace HTb := hide (HTb.out.below hq (by omega))
    replace RL := hide (RL.out.below hq (by omega))
    replace Rt := hide (Rt.out.below hq (by omega))
    replace HB := hide (HB.out.trans (hq.mono (by omega)))
    clear hq
    have bB4 : Box w2 w1.heap.size [.int .i64 x, .int .i64 y] := by rw [hW]; exact (((box_at _ _ _ _ (by simp)).alloc (by first | omega | (simp <;> omega) | simp) _).alloc (by first | omega | (simp <;> omega) | simp) _)
    have bB5 : Box w2 (w1.heap.size + 1) [.int .i64 a0, .int .i64 a1, .int .i64 a2, .int .i64 a3, .int .i64 a4] := by rw [hW]; exact ((box_at _ _ _ _ (by simp)).alloc (by first | omega | (simp <;> omega) | simp) _)
    have bB6 : Box w2 (w1.heap.size + 1 + 1) [.int .i64 d0, .int .i64 d1, .int .i64 d2, .int .i64 d3, .int .i64 d4] := by rw [hW]; exact (box_at _ _ _ _ (by simp))
    clear hW
    obtain ⟨⟨⟨⟨p0, p1, p2, p3, p4⟩, ⟨q0, q1, q2, q3, q4⟩⟩, bd, cc⟩, hHP⟩ : ∃ z, rsV Tt x y (a0, a1, a2, a3, a4) (d0, d1, d2, d3, d4) L = z := ⟨_, rfl⟩
    have HP := hide hHP
    clear hHP
    refine (implRunRounds_as At nt ct _ _ Tt hmt x y a0 a1 a2 a3 a4 d0 d1 d2 d3 d4 A' n' c' _ _ L hL (by omega) _ HP Rt.out (by omega) RL.out (by omega)).mono ?_
    rintro e w3 ⟨rfl, hq⟩
    have hs_w3 : w2.heap.size ≤ w3.heap.size := hq.size
    replace bB4 := bB4.below hq (by omega)
    replace bB5 := bB5.below hq (by omega)
    replace bB6 := bB6.below hq (by omega)
    replace HR0 := hide (HR0.out.below hq (by omega))
    replace HTb := hide (HTb.out.below hq (by omega))
    replace RL := hide (RL.out.below hq (by omega))
    replace Rt := hide (Rt.out.below hq (by omega))
    replace HB := hide (HB.out.trans (hq.mono (by omega)))
    clear hq
    have lB4_0 : ∀ o0 o1 : Obj, ((w3.alloc o0).alloc o1).cell? ⟨w1.heap.size, 0, none⟩ = some (.int .i64 x) := fun o0 o1 => ((bB4.alloc (by first | omega | (simp; omega)) o0).alloc (by first | omega | (simp; omega)) o1) 0 _ rfl
    have lB4_1 : ∀ o0 o1 : Obj, ((w3.alloc o0).alloc o1).cell? ⟨w1.heap.size, 1, none⟩ = some (.int .i64 y) := fun o0 o1 => ((bB4.alloc (by first | omega | (simp; omega)) o0).alloc (by first | omega | (simp; omega)) o1) 1 _ rfl
    have lB5_0 : ∀ o0 o1 : Obj, ((w3.alloc o0).alloc o1).cell? ⟨(w1.heap.size + 1), 0, none⟩ = some (.int .i64 a0) := fun o0 o1 => ((bB5.alloc (by first | omega | (simp; omega)) o0).alloc (by first | omega | (simp; omega)) o1) 0 _ rfl
    have lB5_1 : ∀ o0 o1 : Obj, ((w3.alloc o0).alloc o1).cell? ⟨(w1.heap.size + 1), 1, none⟩ = some (.int .i64 a1) := fun o0 o1 => ((bB5.alloc (by first | omega | (simp; omega)) o0).alloc (by first | omega | (simp; omega)) o1) 1 _ rfl
    have lB5_2 : ∀ o0 o1 : Obj, ((w3.alloc o0).alloc o1).cell? ⟨(w1.heap.size + 1), 2, none⟩ = some (.int .i64 a2) := fun o0 o1 => ((bB5.alloc (by first | omega | (simp; omega)) o0).alloc (by first | omega | (simp; omega)) o1) 2 _ rfl
    have lB5_3 : ∀ o0 o1 : Obj, ((w3.alloc o0).alloc o1).cell? ⟨(w1.heap.size + 1), 3, none⟩ = some (.int .i64 a3) := fun o0 o1 => ((bB5.alloc (by first | omega | (simp; omega)) o0).alloc (by first | omega | (simp; omega)) o1) 3 _ rfl
    have lB5_4 : ∀ o0 o1 : Obj, ((w3.alloc o0).alloc o1).cell? ⟨(w1.heap.size + 1), 4, none⟩ = some (.int .i64 a4) := fun o0 o1 => ((bB5.alloc (by first | omega | (simp; omega)) o0).alloc (by first | omega | (simp; omega)) o1) 4 _ rfl
    have lB6_0 : ∀ o0 o1 : Obj, ((w3.alloc o0).alloc o1).cell? ⟨(w1.heap.size + 1 + 1), 0, none⟩ = some (.int .i64 d0) := fun o0 o1 => ((bB6.alloc (by first | omega | (simp; omega)) o0).alloc (by first | omega | (simp; omega)) o1) 0 _ rfl
    have lB6_1 : ∀ o0 o1 : Obj, ((w3.alloc o0).alloc o1).cell? ⟨(w1.heap.size + 1 + 1), 1, none⟩ = some (.int .i64 d1) := fun o0 o1 => ((bB6.alloc (by first | omega | (simp; omega)) o0).alloc (by first | omega | (simp; omega)) o1) 1 _ rfl
    have lB6_2 : ∀ o0 o1 : Obj, ((w3.alloc o0).alloc o1).cell? ⟨(w1.heap.size + 1 + 1), 2, none⟩ = some (.int .i64 d2) := fun o0 o1 => ((bB6.alloc (by first | omega | (simp; omega)) o0).alloc (by first | omega | (simp; omega)) o1) 2 _ rfl
    have lB6_3 : ∀ o0 o1 : Obj, ((w3.alloc o0).alloc o1).cell? ⟨(w1.heap.size + 1 + 1), 3, none⟩ = some (.int .i64 d3) := fun o0 o1 => ((bB6.alloc (by first | omega | (simp; omega)) o0).alloc (by first | omega | (simp; omega)) o1) 3 _ rfl
    have lB6_4 : ∀ o0 o1 : Obj, ((w3.alloc o0).alloc o1).cell? ⟨(w1.heap.size + 1 + 1), 4, none⟩ = some (.int .i64 d4) := fun o0 o1 => ((bB6.alloc (by first | omega | (simp; omega)) o0).alloc (by first | omega | (simp; omega)) o1) 4 _ rfl
    go_wp2_with fail
    clear lB4_0 lB4_1 lB5_0 lB5_1 lB5_2 lB5_3 lB5_4 lB6_0 lB6_1 lB6_2 lB6_3 lB6_4
    obtain ⟨w4, hW⟩ : ∃ W : World, W = ((w3.alloc (.cells #[.int .i64 p0, .int .i64 p1, .int .i64 p2, .int .i64 p3, .int .i64 p4] 28)).alloc (.cells #[.int .i64 q0, .int .i64 q1, .int .i64 q2, .int .i64 q3, .int .i64 q4] 28)) := ⟨_, rfl⟩
    rw [← hW]
    have hs_w4 : w4.heap.size = w3.heap.size + 2 := by rw [hW]; simp
    have hq : Below w3.heap.size w3 w4 := by rw [hW]; exact (((Below.refl _ _).alloc (by first | omega | (simp <;> omega) | simp) _).alloc (by first | omega | (simp <;> omega) | simp) _)
    replace bB4 := bB4.below hq (by omega)
    replace bB5 := bB5.below hq (by omega)
    replace bB6 := bB6.below hq (by omega)
    replace HR0 := hide (HR0.out.below hq (by omega))
    replace HTb := hide (HTb.out.below hq (by omega))
    replace RL := hide (RL.out.below hq (by omega))
    replace Rt := hide (Rt.out.below hq (by omega))
    replace HB := hide (HB.out.trans (hq.mono (by omega)))
    clear hq
    have bB8 : Box w4 w3.heap.size [.int .i64 p0, .int .i64 p1, .int .i64 p2, .int .i64 p3, .int .i64 p4] := by rw [hW]; exact ((box_at _ _ _ _ (by simp)).alloc (by first | omega | (simp <;> omega) | simp) _)
    have bB9 : Box w4 (w3.heap.size + 1) [.int .i64 q0, .int .i64 q1, .int .i64 q2, .int .i64 q3, .int .i64 q4] := by rw [hW]; exact (box_at _ _ _ _ (by simp))
    clear hW
    refine (specRunRounds_as At nt ct _ _ Tt hmt x y a0 a1 a2 a3 a4 d0 d1 d2 d3 d4 A' n' c' _ _ L hL (by omega) _ HP Rt.out (by omega) RL.out (by omega)).mono ?_
    rintro e w5 ⟨rfl, hq⟩
    have hs_w5 : w4.heap.size ≤ w5.heap.size := hq.size
    replace bB4 := bB4.below hq (by omega)
    replace bB5 := bB5.below hq (by omega)
    replace bB6 := bB6.below hq (by omega)
    replace bB8 := bB8.below hq (by omega)
    replace bB9 := bB9.below hq (by omega)
    replace HR0 := hide (HR0.out.below hq (by omega))
    replace HTb := hide (HTb.out.below hq (by omega))
    replace RL := hide (RL.out.below hq (by omega))
    replace Rt := hide (Rt.out.below hq (by omega))
    replace HB := hide (HB.out.trans (hq.mono (by omega)))
    clear hq
    go_wp2_with fail
    obtain ⟨w6, hW⟩ : ∃ W : World, W = ((w5.alloc (.cells #[.int .i64 p0, .int .i64 p1, .int .i64 p2, .int .i64 p3, .int .i64 p4] 28)).alloc (.cells #[.int .i64 q0, .int .i64 q1, .int .i64 q2, .int .i64 q3, .int .i64 q4] 28)) := ⟨_, rfl⟩
    rw [← hW]
    have hs_w6 : w6.heap.size = w5.heap.size + 2 := by rw [hW]; simp
    have hq : Below w5.heap.size w5 w6 := by rw [hW]; exact (((Below.refl _ _).alloc (by first | omega | (simp <;> omega) | simp) _).alloc (by first | omega | (simp <;> omega) | simp) _)
    replace bB4 := bB4.below hq (by omega)
    replace bB5 := bB5.below hq (by omega)
    replace bB6 := bB6.below hq (by omega)
    replace bB8 := bB8.below hq (by omega)
    replace bB9 := bB9.below hq (by omega)
    replace HR0 := hide (HR0.out.below hq (by omega))
    replace HTb := hide (HTb.out.below hq (by omega))
    replace RL := hide (RL.out.below hq (by omega))
    replace Rt := hide (Rt.out.below hq (by omega))
    replace HB := hide (HB.out.trans (hq.mono (by omega)))
    clear hq
    have bB12 : Box w6 w5.heap.size [.int .i64 p0, .int .i64 p1, .int .i64 p2, .int .i64 p3, .int .i64 p4] := by rw [hW]; exact ((box_at _ _ _ _ (by simp)).alloc (by first | omega | (simp <;> omega) | simp) _)
    have bB13 : Box w6 (w5.heap.size + 1) [.int .i64 q0, .int .i64 q1, .int .i64 q2, .int .i64 q3, .int .i64 q4] := by rw [hW]; exact (box_at _ _ _ _ (by simp))
    clear hW
    refine (DrawRoundsNeeded_g A0 n0 c0 w.heap.size _ hm0 _ HR0.out (by omega) HV0.out).mono ?_
    rintro e w7 ⟨v2, x', y', g0, g1, g2, g3, g4, h0, h1, h2, h3, h4, rfl, hv, hq⟩
    have hs_w7 : w6.heap.size ≤ w7.heap.size := hq.size
    replace bB4 := bB4.below hq (by omega)
    replace bB5 := bB5.below hq (by omega)
    replace bB6 := bB6.below hq (by omega)
    replace bB8 := bB8.below hq (by omega)
    replace bB9 := bB9.below hq (by omega)
    replace bB12 := bB12.below hq (by omega)
    replace bB13 := bB13.below hq (by omega)
    replace HR0 := hide (HR0.out.below hq (by omega))
    replace HTb := hide (HTb.out.below hq (by omega))
    replace RL := hide (RL.out.below hq (by omega))
    replace Rt := hide (Rt.out.below hq (by omega))
    replace HB := hide (HB.out.trans (hq.mono (by omega)))
    clear hq
    obtain ⟨Au, nu, cu, Tu, rfl, hmu, hru⟩ := hv
    have Ru := hide hru
    clear hru
    go_wp2_with fail
    obtain ⟨w8, hW⟩ : ∃ W : World, W = (((w7.alloc (.cells #[.int .i64 x', .int .i64 y'] 26)).alloc (.cells #[.int .i64 g0, .int .i64 g1, .int .i64 g2, .int .i64 g3, .int .i64 g4] 28)).alloc (.cells #[.int .i64 h0, .int .i64 h1, .int .i64 h2, .int .i64 h3, .int .i64 h4] 28)) := ⟨_, rfl⟩
    rw [← hW]
    have hs_w8 : w8.heap.size = w7.heap.size + 3 := by rw [hW]; simp
    have hq : Below w7.heap.size w7 w8 := by rw [hW]; exact ((((Below.refl _ _).alloc (by first | omega | (simp <;> omega) | simp) _).alloc (by first | omega | (simp <;> omega) | simp) _).alloc (by first | omega | (simp <;> omega) | simp) _)
    replace bB4 := bB4.below hq (by omega)
    replace bB5 := bB5.below hq (by omega)
    replace bB6 := bB6.below hq (by omega)
    replace bB8 := bB8.below hq (by omega)
    replace bB9 := bB9.below hq (by omega)
    replace bB12 := bB12.below hq (by omega)
    replace bB13 := bB13.below hq (by omega)
    replace HR0 := hide (HR0.out.below hq (by omega))
    replace HTb := hide (HTb.out.below hq (by omega))
    replace RL := hide (RL.out.below hq (by omega))
    replace Rt := hide (Rt.out.below hq (by omega))
    replace Ru := hide (Ru.out.below hq (by omega))
    replace HB := hide (HB.out.trans (hq.mono (by omega)))
    clear hq
    have bB17 : Box w8 w7.heap.size [.int .i64 x', .int .i64 y'] := by rw [hW]; exact (((box_at _ _ _ _ (by simp)).alloc (by first | omega | (simp <;> omega) | simp) _).alloc (by first | omega | (simp <;> omega) | simp) _)
    have bB18 : Box w8 (w7.heap.size + 1) [.int .i64 g0, .int .i64 g1, .int .i64 g2, .int .i64 g3, .int .i64 g4] := by rw [hW]; exact ((box_at _ _ _ _ (by simp)).alloc (by first | omega | (simp <;> omega) | simp) _)
    have bB19 : Box w8 (w7.heap.size + 1 + 1) [.int .i64 h0, .int .i64 h1, .int .i64 h2, .int .i64 h3, .int .i64 h4] := by rw [hW]; exact (box_at _ _ _ _ (by simp))
    clear hW
    obtain ⟨⟨nn, cn⟩, hHN⟩ : ∃ z, rnV Tu x' y' (g0, g1, g2, g3, g4) (h0, h1, h2, h3, h4) = z := ⟨_, rfl⟩
    have HN := hide hHN
    clear hHN
    refine (implNeed_as Au nu cu _ _ Tu hmu x' y' g0 g1 g2 g3 g4 h0 h1 h2 h3 h4 _ HN Ru.out (by omega)).mono ?_
    rintro e w9 ⟨rfl, hq⟩
    have hs_w9 : w8.heap.size ≤ w9.heap.size := hq.size
    replace bB4 := bB4.below hq (by omega)
    replace bB5 := bB5.below hq (by omega)
    replace bB6 := bB6.below hq (by omega)
    replace bB8 := bB8.below hq (by omega)
    replace bB9 := bB9.below hq (by omega)
    replace bB12 := bB12.below hq (by omega)
    replace bB13 := bB13.below hq (by omega)
    replace bB17 := bB17.below hq (by omega)
    replace bB18 := bB18.below hq (by omega)
    replace bB19 := bB19.below hq (by omega)
    replace HR0 := hide (HR0.out.below hq (by omega))
    replace HTb := hide (HTb.out.below hq (by omega))
    replace RL := hide (RL.out.below hq (by omega))
    replace Rt := hide (Rt.out.below hq (by omega))
    replace Ru := hide (Ru.out.below hq (by omega))
    replace HB := hide (HB.out.trans (hq.mono (by omega)))
    clear hq
    have lB17_0 := bB17 0 _ rfl
    have lB17_1 := bB17 1 _ rfl
    have lB18_0 := bB18 0 _ rfl
    have lB18_1 := bB18 1 _ rfl
    have lB18_2 := bB18 2 _ rfl
    have lB18_3 := bB18 3 _ rfl
    have lB18_4 := bB18 4 _ rfl
    have lB19_0 := bB19 0 _ rfl
    have lB19_1 := bB19 1 _ rfl
    have lB19_2 := bB19 2 _ rfl
    have lB19_3 := bB19 3 _ rfl
    have lB19_4 := bB19 4 _ rfl
    go_wp2_with fail
    clear lB17_0 lB17_1 lB18_0 lB18_1 lB18_2 lB18_3 lB18_4 lB19_0 lB19_1 lB19_2 lB19_3 lB19_4
    refine (specNeed_as Au nu cu _ _ Tu hmu x' y' g0 g1 g2 g3 g4 h0 h1 h2 h3 h4 _ HN Ru.out (by omega)).mono ?_
    rintro e w10 ⟨rfl, hq⟩
    have hs_w10 : w9.heap.size ≤ w10.heap.size := hq.size
    replace bB4 := bB4.below hq (by omega)
    replace bB5 := bB5.below hq (by omega)
    replace bB6 := bB6.below hq (by omega)
    replace bB8 := bB8.below hq (by omega)
    replace bB9 := bB9.below hq (by omega)
    replace bB12 := bB12.below hq (by omega)
    replace bB13 := bB13.below hq (by omega)
    replace bB17 := bB17.below hq (by omega)
    replace bB18 := bB18.below hq (by omega)
    replace bB19 := bB19.below hq (by omega)
    replace HR0 := hide (HR0.out.below hq (by omega))
    replace HTb := hide (HTb.out.below hq (by omega))
    replace RL := hide (RL.out.below hq (by omega))
    replace Rt := hide (Rt.out.below hq (by omega))
    replace Ru := hide (Ru.out.below hq (by omega))
    replace HB := hide (HB.out.trans (hq.mono (by omega)))
    clear hq
    go_wp2_with fail
    refine (DrawNewControl_g A0 n0 c0 w.heap.size _ hm0 _ HR0.out (by omega) HV0.out).mono ?_
    rintro e w11 ⟨f1, f2, f3, rfl, hq⟩
    have hs_w11 : w10.heap.size ≤ w11.heap.size := hq.size
    replace bB4 := bB4.below hq (by omega)
    replace bB5 := bB5.below hq (by omega)
    replace bB6 := bB6.below hq (by omega)
    replace bB8 := bB8.below hq (by omega)
    replace bB9 := bB9.below hq (by omega)
    replace bB12 := bB12.below hq (by omega)
    replace bB13 := bB13.below hq (by omega)
    replace bB17 := bB17.below hq (by omega)
    replace bB18 := bB18.below hq (by omega)
    replace bB19 := bB19.below hq (by omega)
    replace HR0 := hide (HR0.out.below hq (by omega))
    replace HTb := hide (HTb.out.below hq (by omega))
    replace RL := hide (RL.out.below hq (by omega))
    replace Rt := hide (Rt.out.below hq (by omega))
    replace Ru := hide (Ru.out.below hq (by omega))
    replace HB := hide (HB.out.trans (hq.mono (by omega)))
    clear hq
    go_wp2_with fail
    obtain ⟨⟨k0, k1, k2, k3, k4⟩, hHK⟩ : ∃ z, nwV f1 f2 f3 = z := ⟨_, rfl⟩
    have HK := hide hHK
    clear hHK
    obtain ⟨ck, hHCK⟩ : ∃ z, nwC f1 f2 f3 = z := ⟨_, rfl⟩
    have HCK := hide hHCK
    clear hHCK
    refine (implNew_as f1 f2 f3 _ HK HCK).mono ?_
    rintro e w12 ⟨rfl, hq⟩
    have hs_w12 : w11.heap.size ≤ w12.heap.size := hq.size
    replace bB4 := bB4.below hq (by omega)
    replace bB5 := bB5.below hq (by omega)
    replace bB6 := bB6.below hq (by omega)
    replace bB8 := bB8.below hq (by omega)
    replace bB9 := bB9.below hq (by omega)
    replace bB12 := bB12.below hq (by omega)
    replace bB13 := bB13.below hq (by omega)
    replace bB17 := bB17.below hq (by omega)
    replace bB18 := bB18.below hq (by omega)
    replace bB19 := bB19.below hq (by omega)
    replace HR0 := hide (HR0.out.below hq (by omega))
    replace HTb := hide (HTb.out.below hq (by omega))
    replace RL := hide (RL.out.below hq (by omega))
    replace Rt := hide (Rt.out.below hq (by omega))
    replace Ru := hide (Ru.out.below hq (by omega))
    replace HB := hide (HB.out.trans (hq.mono (by omega)))
    clear hq
    go_wp2_with fail
    obtain ⟨w13, hW⟩ : ∃ W : World, W = (w12.alloc (.cells #[.int .i64 k0, .int .i64 k1, .int .i64 k2, .int .i64 k3, .int .i64 k4] 28)) := ⟨_, rfl⟩
    rw [← hW]
    have hs_w13 : w13.heap.size = w12.heap.size + 1 := by rw [hW]; simp
    have hq : Below w12.heap.size w12 w13 := by rw [hW]; exact ((Below.refl _ _).alloc (by first | omega | (simp <;> omega) | simp) _)
    replace bB4 := bB4.below hq (by omega)
    replace bB5 := bB5.below hq (by omega)
    replace bB6 := bB6.below hq (by omega)
    replace bB8 := bB8.below hq (by omega)
    replace bB9 := bB9.below hq (by omega)
    replace bB12 := bB12.below hq (by omega)
    replace bB13 := bB13.below hq (by omega)
    replace bB17 := bB17.below hq (by omega)
    replace bB18 := bB18.below hq (by omega)
    replace bB19 := bB19.below hq (by omega)
    replace HR0 := hide (HR0.out.below hq (by omega))
    replace HTb := hide (HTb.out.below hq (by omega))
    replace RL := hide (RL.out.below hq (by omega))
    replace Rt := hide (Rt.out.below hq (by omega))
    replace Ru := hide (Ru.out.below hq (by omega))
    replace HB := hide (HB.out.trans (hq.mono (by omega)))
    clear hq
    have bB27 : Box w13 w12.heap.size [.int .i64 k0, .int .i64 k1, .int .i64 k2, .int .i64 k3, .int .i64 k4] := by rw [hW]; exact (box_at _ _ _ _ (by simp))
    clear hW
    refine (specNew_as f1 f2 f3 _ HK HCK).mono ?_
    rintro e w14 ⟨rfl, hq⟩
    have hs_w14 : w13.heap.size ≤ w14.heap.size := hq.size
    replace bB4 := bB4.below hq (by omega)
    replace bB5 := bB5.below hq (by omega)
    replace bB6 := bB6.below hq (by omega)
    replace bB8 := bB8.below hq (by omega)
    replace bB9 := bB9.below hq (by omega)
    replace bB12 := bB12.below hq (by omega)
    replace bB13 := bB13.below hq (by omega)
    replace bB17 := bB17.below hq (by omega)
    replace bB18 := bB18.below hq (by omega)
    replace bB19 := bB19.below hq (by omega)
    replace bB27 := bB27.below hq (by omega)
    replace HR0 := hide (HR0.out.below hq (by omega))
    replace HTb := hide (HTb.out.below hq (by omega))
    replace RL := hide (RL.out.below hq (by omega))
    replace Rt := hide (Rt.out.below hq (by omega))
    replace Ru := hide (Ru.out.below hq (by omega))
    replace HB := hide (HB.out.trans (hq.mono (by omega)))
    clear hq
    go_wp2_with fail
    obtain ⟨w15, hW⟩ : ∃ W : World, W = (w14.alloc (.cells #[.int .i64 k0, .int .i64 k1, .int .i64 k2, .int .i64 k3, .int .i64 k4] 28)) := ⟨_, rfl⟩
    rw [← hW]
    have hs_w15 : w15.heap.size = w14.heap.size + 1 := by rw [hW]; simp
    have hq : Below w14.heap.size w14 w15 := by rw [hW]; exact ((Below.refl _ _).alloc (by first | omega | (simp <;> omega) | simp) _)
    replace bB4 := bB4.below hq (by omega)
    replace bB5 := bB5.below hq (by omega)
    replace bB6 := bB6.below hq (by omega)
    replace bB8 := bB8.below hq (by omega)
    replace bB9 := bB9.below hq (by omega)
    replace bB12 := bB12.below hq (by omega)
    replace bB13 := bB13.below hq (by omega)
    replace bB17 := bB17.below hq (by omega)
    replace bB18 := bB18.below hq (by omega)
    replace bB19 := bB19.below hq (by omega)
    replace bB27 := bB27.below hq (by omega)
    replace HR0 := hide (HR0.out.below hq (by omega))
    replace HTb := hide (HTb.out.below hq (by omega))
    replace RL := hide (RL.out.below hq (by omega))
    replace Rt := hide (Rt.out.below hq (by omega))
    replace Ru := hide (Ru.out.below hq (by omega))
    replace HB := hide (HB.out.trans (hq.mono (by omega)))
    clear hq
    have bB29 : Box w15 w14.heap.size [.int .i64 k0, .int .i64 k1, .int .i64 k2, .int .i64 k3, .int .i64 k4] := by rw [hW]; exact (box_at _ _ _ _ (by simp))
    clear hW
    refine (DrawModeName_g A0 n0 c0 w.heap.size _ hm0 _ HR0.out (by omega) HV0.out).mono ?_
    rintro e w16 ⟨pm, pm0, pm1, rfl, hq⟩
    have hs_w16 : w15.heap.size ≤ w16.heap.size := hq.size
    replace bB4 := bB4.below hq (by omega)
    replace bB5 := bB5.below hq (by omega)
    replace bB6 := bB6.below hq (by omega)
    replace bB8 := bB8.below hq (by omega)
    replace bB9 := bB9.below hq (by omega)
    replace bB12 := bB12.below hq (by omega)
    replace bB13 := bB13.below hq (by omega)
    replace bB17 := bB17.below hq (by omega)
    replace bB18 := bB18.below hq (by omega)
    replace bB19 := bB19.below hq (by omega)
    replace bB27 := bB27.below hq (by omega)
    replace bB29 := bB29.below hq (by omega)
    replace HR0 := hide (HR0.out.below hq (by omega))
    replace HTb := hide (HTb.out.below hq (by omega))
    replace RL := hide (RL.out.below hq (by omega))
    replace Rt := hide (Rt.out.below hq (by omega))
    replace Ru := hide (Ru.out.below hq (by omega))
    replace HB := hide (HB.out.trans (hq.mono (by omega)))
    clear hq
    go_wp2_with fail
    refine (DrawControlText_g A0 n0 c0 w.heap.size _ hm0 _ HR0.out (by omega) HV0.out).mono ?_
    rintro e w17 ⟨m0, m1, m2, m3, m4, rfl, hq⟩
    have hs_w17 : w16.heap.size ≤ w17.heap.size := hq.size
    replace bB4 := bB4.below hq (by omega)
    replace bB5 := bB5.below hq (by omega)
    replace bB6 := bB6.below hq (by omega)
    replace bB8 := bB8.below hq (by omega)
    replace bB9 := bB9.below hq (by omega)
    replace bB12 := bB12.below hq (by omega)
    replace bB13 := bB13.below hq (by omega)
    replace bB17 := bB17.below hq (by omega)
    replace bB18 := bB18.below hq (by omega)
    replace bB19 := bB19.below hq (by omega)
    replace bB27 := bB27.below hq (by omega)
    replace bB29 := bB29.below hq (by omega)
    replace HR0 := hide (HR0.out.below hq (by omega))
    replace HTb := hide (HTb.out.below hq (by omega))
    replace RL := hide (RL.out.below hq (by omega))
    replace Rt := hide (Rt.out.below hq (by omega))
    replace Ru := hide (Ru.out.below hq (by omega))
    replace HB := hide (HB.out.trans (hq.mono (by omega)))
    clear hq
    obtain ⟨nm, hHNM⟩ : ∃ z, nmI (pm - 1) = z := ⟨_, rfl⟩
    have HNM := hide hHNM
    clear hHNM
    obtain ⟨tx, hHTX⟩ : ∃ z, ctlT m0 m1 m2 m3 m4 = z := ⟨_, rfl⟩
    have HTX := hide hHTX
    clear hHTX
    obtain ⟨ok, hHOK⟩ : ∃ z, ctlOk m0 m1 m2 m3 m4 = z := ⟨_, rfl⟩
    have HOK := hide hHOK
    clear hHOK
    obtain ⟨ru, hHRU⟩ : ∃ z, ruOk x y = z := ⟨_, rfl⟩
    have HRU := hide hHRU
    clear hHRU
    have lB8_0 : ∀ o0 : Obj, (w17.alloc o0).cell? ⟨w3.heap.size, 0, none⟩ = some (.int .i64 p0) := fun o0 => (bB8.alloc (by first | omega | (simp; omega)) o0) 0 _ rfl
    have lB8_1 : ∀ o0 : Obj, (w17.alloc o0).cell? ⟨w3.heap.size, 1, none⟩ = some (.int .i64 p1) := fun o0 => (bB8.alloc (by first | omega | (simp; omega)) o0) 1 _ rfl
    have lB8_2 : ∀ o0 : Obj, (w17.alloc o0).cell? ⟨w3.heap.size, 2, none⟩ = some (.int .i64 p2) := fun o0 => (bB8.alloc (by first | omega | (simp; omega)) o0) 2 _ rfl
    have lB8_3 : ∀ o0 : Obj, (w17.alloc o0).cell? ⟨w3.heap.size, 3, none⟩ = some (.int .i64 p3) := fun o0 => (bB8.alloc (by first | omega | (simp; omega)) o0) 3 _ rfl
    have lB8_4 : ∀ o0 : Obj, (w17.alloc o0).cell? ⟨w3.heap.size, 4, none⟩ = some (.int .i64 p4) := fun o0 => (bB8.alloc (by first | omega | (simp; omega)) o0) 4 _ rfl
    have lB9_0 : ∀ o0 : Obj, (w17.alloc o0).cell? ⟨(w3.heap.size + 1), 0, none⟩ = some (.int .i64 q0) := fun o0 => (bB9.alloc (by first | omega | (simp; omega)) o0) 0 _ rfl
    have lB9_1 : ∀ o0 : Obj, (w17.alloc o0).cell? ⟨(w3.heap.size + 1), 1, none⟩ = some (.int .i64 q1) := fun o0 => (bB9.alloc (by first | omega | (simp; omega)) o0) 1 _ rfl
    have lB9_2 : ∀ o0 : Obj, (w17.alloc o0).cell? ⟨(w3.heap.size + 1), 2, none⟩ = some (.int .i64 q2) := fun o0 => (bB9.alloc (by first | omega | (simp; omega)) o0) 2 _ rfl
    have lB9_3 : ∀ o0 : Obj, (w17.alloc o0).cell? ⟨(w3.heap.size + 1), 3, none⟩ = some (.int .i64 q3) := fun o0 => (bB9.alloc (by first | omega | (simp; omega)) o0) 3 _ rfl
    have lB9_4 : ∀ o0 : Obj, (w17.alloc o0).cell? ⟨(w3.heap.size + 1), 4, none⟩ = some (.int .i64 q4) := fun o0 => (bB9.alloc (by first | omega | (simp; omega)) o0) 4 _ rfl
    have lB12_0 : ∀ o0 : Obj, (w17.alloc o0).cell? ⟨w5.heap.size, 0, none⟩ = some (.int .i64 p0) := fun o0 => (bB12.alloc (by first | omega | (simp; omega)) o0) 0 _ rfl
    have lB12_1 : ∀ o0 : Obj, (w17.alloc o0).cell? ⟨w5.heap.size, 1, none⟩ = some (.int .i64 p1) := fun o0 => (bB12.alloc (by first | omega | (simp; omega)) o0) 1 _ rfl
    have lB12_2 : ∀ o0 : Obj, (w17.alloc o0).cell? ⟨w5.heap.size, 2, none⟩ = some (.int .i64 p2) := fun o0 => (bB12.alloc (by first | omega | (simp; omega)) o0) 2 _ rfl
    have lB12_3 : ∀ o0 : Obj, (w17.alloc o0).cell? ⟨w5.heap.size, 3, none⟩ = some (.int .i64 p3) := fun o0 => (bB12.alloc (by first | omega | (simp; omega)) o0) 3 _ rfl
    have lB12_4 : ∀ o0 : Obj, (w17.alloc o0).cell? ⟨w5.heap.size, 4, none⟩ = some (.int .i64 p4) := fun o0 => (bB12.alloc (by first | omega | (simp; omega)) o0) 4 _ rfl
    have lB13_0 : ∀ o0 : Obj, (w17.alloc o0).cell? ⟨(w5.heap.size + 1), 0, none⟩ = some (.int .i64 q0) := fun o0 => (bB13.alloc (by first | omega | (simp; omega)) o0) 0 _ rfl
    have lB13_1 : ∀ o0 : Obj, (w17.alloc o0).cell? ⟨(w5.heap.size + 1), 1, none⟩ = some (.int .i64 q1) := fun o0 => (bB13.alloc (by first | omega | (simp; omega)) o0) 1 _ rfl
    have lB13_2 : ∀ o0 : Obj, (w17.alloc o0).cell? ⟨(w5.heap.size + 1), 2, none⟩ = some (.int .i64 q2) := fun o0 => (bB13.alloc (by first | omega | (simp; omega)) o0) 2 _ rfl
    have lB13_3 : ∀ o0 : Obj, (w17.alloc o0).cell? ⟨(w5.heap.size + 1), 3, none⟩ = some (.int .i64 q3) := fun o0 => (bB13.alloc (by first | omega | (simp; omega)) o0) 3 _ rfl
    have lB13_4 : ∀ o0 : Obj, (w17.alloc o0).cell? ⟨(w5.heap.size + 1), 4, none⟩ = some (.int .i64 q4) := fun o0 => (bB13.alloc (by first | omega | (simp; omega)) o0) 4 _ rfl
    have lB27_0 : ∀ o0 : Obj, (w17.alloc o0).cell? ⟨w12.heap.size, 0, none⟩ = some (.int .i64 k0) := fun o0 => (bB27.alloc (by first | omega | (simp; omega)) o0) 0 _ rfl
    have lB27_1 : ∀ o0 : Obj, (w17.alloc o0).cell? ⟨w12.heap.size, 1, none⟩ = some (.int .i64 k1) := fun o0 => (bB27.alloc (by first | omega | (simp; omega)) o0) 1 _ rfl
    have lB27_2 : ∀ o0 : Obj, (w17.alloc o0).cell? ⟨w12.heap.size, 2, none⟩ = some (.int .i64 k2) := fun o0 => (bB27.alloc (by first | omega | (simp; omega)) o0) 2 _ rfl
    have lB27_3 : ∀ o0 : Obj, (w17.alloc o0).cell? ⟨w12.heap.size, 3, none⟩ = some (.int .i64 k3) := fun o0 => (bB27.alloc (by first | omega | (simp; omega)) o0) 3 _ rfl
    have lB27_4 : ∀ o0 : Obj, (w17.alloc o0).cell? ⟨w12.heap.size, 4, none⟩ = some (.int .i64 k4) := fun o0 => (bB27.alloc (by first | omega | (simp; omega)) o0) 4 _ rfl
    have lB29_0 : ∀ o0 : Obj, (w17.alloc o0).cell? ⟨w14.heap.size, 0, none⟩ = some (.int .i64 k0) := fun o0 => (bB29.alloc (by first | omega | (simp; omega)) o0) 0 _ rfl
    have lB29_1 : ∀ o0 : Obj, (w17.alloc o0).cell? ⟨w14.heap.size, 1, none⟩ = some (.int .i64 k1) := fun o0 => (bB29.alloc (by first | omega | (simp; omega)) o0) 1 _ rfl
    have lB29_2 : ∀ o0 : Obj, (w17.alloc o0).cell? ⟨w14.heap.size, 2, none⟩ = some (.int .i64 k2) := fun o0 => (bB29.alloc (by first | omega | (simp; omega)) o0) 2 _ rfl
    have lB29_3 : ∀ o0 : Obj, (w17.alloc o0).cell? ⟨w14.heap.size, 3, none⟩ = some (.int .i64 k3) := fun o0 => (bB29.alloc (by first | omega | (simp; omega)) o0) 3 _ rfl
    have lB29_4 : ∀ o0 : Obj, (w17.alloc o0).cell? ⟨w14.heap.size, 4, none⟩ = some (.int .i64 k4) := fun o0 => (bB29.alloc (by first | omega | (simp; omega)) o0) 4 _ rfl
    go_wp2_with fail
    clear lB8_0 lB8_1 lB8_2 lB8_3 lB8_4 lB9_0 lB9_1 lB9_2 lB9_3 lB9_4 lB12_0 lB12_1 lB12_2 lB12_3 lB12_4 lB13_0 lB13_1 lB13_2 lB13_3 lB13_4 lB27_0 lB27_1 lB27_2 lB27_3 lB27_4 lB29_0 lB29_1 lB29_2 lB29_3 lB29_4
    obtain ⟨w18, hW⟩ : ∃ W : World, W = (w17.alloc (.cells #[.int .i64 m0, .int .i64 m1, .int .i64 m2, .int .i64 m3, .int .i64 m4] 28)) := ⟨_, rfl⟩
    rw [← hW]
    have hs_w18 : w18.heap.size = w17.heap.size + 1 := by rw [hW]; simp
    have hq : Below w17.heap.size w17 w18 := by rw [hW]; exact ((Below.refl _ _).alloc (by first | omega | (simp <;> omega) | simp) _)
    replace bB4 := bB4.below hq (by omega)
    replace bB5 := bB5.below hq (by omega)
    replace bB6 := bB6.below hq (by omega)
    replace bB8 := bB8.below hq (by omega)
    replace bB9 := bB9.below hq (by omega)
    replace bB12 := bB12.below hq (by omega)
    replace bB13 := bB13.below hq (by omega)
    replace bB17 := bB17.below hq (by omega)
    replace bB18 := bB18.below hq (by omega)
    replace bB19 := bB19.below hq (by omega)
    replace bB27 := bB27.below hq (by omega)
    replace bB29 := bB29.below hq (by omega)
    replace HR0 := hide (HR0.out.below hq (by omega))
    replace HTb := hide (HTb.out.below hq (by omega))
    replace RL := hide (RL.out.below hq (by omega))
    replace Rt := hide (Rt.out.below hq (by omega))
    replace Ru := hide (Ru.out.below hq (by omega))
    replace HB := hide (HB.out.trans (hq.mono (by omega)))
    clear hq
    have bB32 : Box w18 w17.heap.size [.int .i64 m0, .int .i64 m1, .int .i64 m2, .int .i64 m3, .int .i64 m4] := by rw [hW]; exact (box_at _ _ _ _ (by simp))
    clear hW
    have hq : Below w18.heap.size w18 (World.drew w18) := Joins.below_draws _ _ 1
    have hsd18 : (World.drew w18).heap.size = w18.heap.size := rfl
    replace bB4 := bB4.below hq (by omega)
    replace bB5 := bB5.below hq (by omega)
    replace bB6 := bB6.below hq (by omega)
    replace bB8 := bB8.below hq (by omega)
    replace bB9 := bB9.below hq (by omega)
    replace bB12 := bB12.below hq (by omega)
    replace bB13 := bB13.below hq (by omega)
    replace bB17 := bB17.below hq (by omega)
    replace bB18 := bB18.below hq (by omega)
    replace bB19 := bB19.below hq (by omega)
    replace bB27 := bB27.below hq (by omega)
    replace bB29 := bB29.below hq (by omega)
    replace bB32 := bB32.below hq (by omega)
    replace HR0 := hide (HR0.out.below hq (by omega))
    replace HTb := hide (HTb.out.below hq (by omega))
    replace RL := hide (RL.out.below hq (by omega))
    replace Rt := hide (Rt.out.below hq (by omega))
    replace Ru := hide (Ru.out.below hq (by omega))
    replace HB := hide (HB.out.trans (hq.mono (by omega)))
    clear hq
    have HSS : Hid ((World.drew w18).cell? ⟨w3.heap.size, 0, none⟩ = some (.int .i64 p0) ∧ (World.drew w18).cell? ⟨w3.heap.size, 1, none⟩ = some (.int .i64 p1) ∧ (World.drew w18).cell? ⟨w3.heap.size, 2, none⟩ = some (.int .i64 p2) ∧ (World.drew w18).cell? ⟨w3.heap.size, 3, none⟩ = some (.int .i64 p3) ∧ (World.drew w18).cell? ⟨w3.heap.size, 4, none⟩ = some (.int .i64 p4) ∧ (World.drew w18).cell? ⟨w5.heap.size, 0, none⟩ = some (.int .i64 p0) ∧ (World.drew w18).cell? ⟨w5.heap.size, 1, none⟩ = some (.int .i64 p1) ∧ (World.drew w18).cell? ⟨w5.heap.size, 2, none⟩ = some (.int .i64 p2) ∧ (World.drew w18).cell? ⟨w5.heap.size, 3, none⟩ = some (.int .i64 p3) ∧ (World.drew w18).cell? ⟨w5.heap.size, 4, none⟩ = some (.int .i64 p4) ∧ (World.drew w18).cell? ⟨(w3.heap.size + 1), 0, none⟩ = some (.int .i64 q0) ∧ (World.drew w18).cell? ⟨(w3.heap.size + 1), 1, none⟩ = some (.int .i64 q1) ∧ (World.drew w18).cell? ⟨(w3.heap.size + 1), 2, none⟩ = some (.int .i64 q2) ∧ (World.drew w18).cell? ⟨(w3.heap.size + 1), 3, none⟩ = some (.int .i64 q3) ∧ (World.drew w18).cell? ⟨(w3.heap.size + 1), 4, none⟩ = some (.int .i64 q4) ∧ (World.drew w18).cell? ⟨(w5.heap.size + 1), 0, none⟩ = some (.int .i64 q0) ∧ (World.drew w18).cell? ⟨(w5.heap.size + 1), 1, none⟩ = some (.int .i64 q1) ∧ (World.drew w18).cell? ⟨(w5.heap.size + 1), 2, none⟩ = some (.int .i64 q2) ∧ (World.drew w18).cell? ⟨(w5.heap.size + 1), 3, none⟩ = some (.int .i64 q3) ∧ (World.drew w18).cell? ⟨(w5.heap.size + 1), 4, none⟩ = some (.int .i64 q4) ∧ (World.drew w18).cell? ⟨w12.heap.size, 0, none⟩ = some (.int .i64 k0) ∧ (World.drew w18).cell? ⟨w12.heap.size, 1, none⟩ = some (.int .i64 k1) ∧ (World.drew w18).cell? ⟨w12.heap.size, 2, none⟩ = some (.int .i64 k2) ∧ (World.drew w18).cell? ⟨w12.heap.size, 3, none⟩ = some (.int .i64 k3) ∧ (World.drew w18).cell? ⟨w12.heap.size, 4, none⟩ = some (.int .i64 k4) ∧ (World.drew w18).cell? ⟨w14.heap.size, 0, none⟩ = some (.int .i64 k0) ∧ (World.drew w18).cell? ⟨w14.heap.size, 1, none⟩ = some (.int .i64 k1) ∧ (World.drew w18).cell? ⟨w14.heap.size, 2, none⟩ = some (.int .i64 k2) ∧ (World.drew w18).cell? ⟨w14.heap.size, 3, none⟩ = some (.int .i64 k3) ∧ (World.drew w18).cell? ⟨w14.heap.size, 4, none⟩ = some (.int .i64 k4) ∧ (World.drew w18).cell? ⟨w17.heap.size, 0, none⟩ = some (.int .i64 m0) ∧ (World.drew w18).cell? ⟨w17.heap.size, 1, none⟩ = some (.int .i64 m1) ∧ (World.drew w18).cell? ⟨w17.heap.size, 2, none⟩ = some (.int .i64 m2) ∧ (World.drew w18).cell? ⟨w17.heap.size, 3, none⟩ = some (.int .i64 m3) ∧ (World.drew w18).cell? ⟨w17.heap.size, 4, none⟩ = some (.int .i64 m4) ∧ (World.drew w18).cell? ⟨w1.heap.size, 0, none⟩ = some (.int .i64 x) ∧ (World.drew w18).cell? ⟨w1.heap.size, 1, none⟩ = some (.int .i64 y)) := hide ⟨bB8 0 _ rfl, bB8 1 _ rfl, bB8 2 _ rfl, bB8 3 _ rfl, bB8 4 _ rfl, bB12 0 _ rfl, bB12 1 _ rfl, bB12 2 _ rfl, bB12 3 _ rfl, bB12 4 _ rfl, bB9 0 _ rfl, bB9 1 _ rfl, bB9 2 _ rfl, bB9 3 _ rfl, bB9 4 _ rfl, bB13 0 _ rfl, bB13 1 _ rfl, bB13 2 _ rfl, bB13 3 _ rfl, bB13 4 _ rfl, bB27 0 _ rfl, bB27 1 _ rfl, bB27 2 _ rfl, bB27 3 _ rfl, bB27 4 _ rfl, bB29 0 _ rfl, bB29 1 _ rfl, bB29 2 _ rfl, bB29 3 _ rfl, bB29 4 _ rfl, bB32 0 _ rfl, bB32 1 _ rfl, bB32 2 _ rfl, bB32 3 _ rfl, bB32 4 _ rfl, bB4 0 _ rfl, bB4 1 _ rfl⟩
    simp only [List.append_eq, List.cons_append, List.nil_append]
    go_region_held3 (fun W => W.cell? ⟨w3.heap.size, 0, none⟩ = some (.int .i64 p0) ∧ W.cell? ⟨w3.heap.size, 1, none⟩ = some (.int .i64 p1) ∧ W.cell? ⟨w3.heap.size, 2, none⟩ = some (.int .i64 p2) ∧ W.cell? ⟨w3.heap.size, 3, none⟩ = some (.int .i64 p3) ∧ W.cell? ⟨w3.heap.size, 4, none⟩ = some (.int .i64 p4) ∧ W.cell? ⟨w5.heap.size, 0, none⟩ = some (.int .i64 p0) ∧ W.cell? ⟨w5.heap.size, 1, none⟩ = some (.int .i64 p1) ∧ W.cell? ⟨w5.heap.size, 2, none⟩ = some (.int .i64 p2) ∧ W.cell? ⟨w5.heap.size, 3, none⟩ = some (.int .i64 p3) ∧ W.cell? ⟨w5.heap.size, 4, none⟩ = some (.int .i64 p4) ∧ W.cell? ⟨(w3.heap.size + 1), 0, none⟩ = some (.int .i64 q0) ∧ W.cell? ⟨(w3.heap.size + 1), 1, none⟩ = some (.int .i64 q1) ∧ W.cell? ⟨(w3.heap.size + 1), 2, none⟩ = some (.int .i64 q2) ∧ W.cell? ⟨(w3.heap.size + 1), 3, none⟩ = some (.int .i64 q3) ∧ W.cell? ⟨(w3.heap.size + 1), 4, none⟩ = some (.int .i64 q4) ∧ W.cell? ⟨(w5.heap.size + 1), 0, none⟩ = some (.int .i64 q0) ∧ W.cell? ⟨(w5.heap.size + 1), 1, none⟩ = some (.int .i64 q1) ∧ W.cell? ⟨(w5.heap.size + 1), 2, none⟩ = some (.int .i64 q2) ∧ W.cell? ⟨(w5.heap.size + 1), 3, none⟩ = some (.int .i64 q3) ∧ W.cell? ⟨(w5.heap.size + 1), 4, none⟩ = some (.int .i64 q4) ∧ W.cell? ⟨w12.heap.size, 0, none⟩ = some (.int .i64 k0) ∧ W.cell? ⟨w12.heap.size, 1, none⟩ = some (.int .i64 k1) ∧ W.cell? ⟨w12.heap.size, 2, none⟩ = some (.int .i64 k2) ∧ W.cell? ⟨w12.heap.size, 3, none⟩ = some (.int .i64 k3) ∧ W.cell? ⟨w12.heap.size, 4, none⟩ = some (.int .i64 k4) ∧ W.cell? ⟨w14.heap.size, 0, none⟩ = some (.int .i64 k0) ∧ W.cell? ⟨w14.heap.size, 1, none⟩ = some (.int .i64 k1) ∧ W.cell? ⟨w14.heap.size, 2, none⟩ = some (.int .i64 k2) ∧ W.cell? ⟨w14.heap.size, 3, none⟩ = some (.int .i64 k3) ∧ W.cell? ⟨w14.heap.size, 4, none⟩ = some (.int .i64 k4) ∧ W.cell? ⟨w17.heap.size, 0, none⟩ = some (.int .i64 m0) ∧ W.cell? ⟨w17.heap.size, 1, none⟩ = some (.int .i64 m1) ∧ W.cell? ⟨w17.heap.size, 2, none⟩ = some (.int .i64 m2) ∧ W.cell? ⟨w17.heap.size, 3, none⟩ = some (.int .i64 m3) ∧ W.cell? ⟨w17.heap.size, 4, none⟩ = some (.int .i64 m4) ∧ W.cell? ⟨w1.heap.size, 0, none⟩ = some (.int .i64 x) ∧ W.cell? ⟨w1.heap.size, 1, none⟩ = some (.int .i64 y)) (with_reducible exact HSS.out) (first | (go_at_call 16; (with_reducible refine (implMode_as pm pm0 pm1 _ HNM).mono ?_); rintro e w19 ⟨rfl, hq⟩; have hs_w19 : (World.drew w18).heap.size ≤ w19.heap.size := hq.size; replace bB4 := bB4.below hq (by omega); replace bB5 := bB5.below hq (by omega); replace bB6 := bB6.below hq (by omega); replace bB8 := bB8.below hq (by omega); replace bB9 := bB9.below hq (by omega); replace bB12 := bB12.below hq (by omega); replace bB13 := bB13.below hq (by omega); replace bB17 := bB17.below hq (by omega); replace bB18 := bB18.below hq (by omega); replace bB19 := bB19.below hq (by omega); replace bB27 := bB27.below hq (by omega); replace bB29 := bB29.below hq (by omega); replace bB32 := bB32.below hq (by omega); replace HR0 := hide (HR0.out.below hq (by omega)); replace HTb := hide (HTb.out.below hq (by omega)); replace RL := hide (RL.out.below hq (by omega)); replace Rt := hide (Rt.out.below hq (by omega)); replace Ru := hide (Ru.out.below hq (by omega)); replace HB := hide (HB.out.trans (hq.mono (by omega))); clear hq; have HSS : Hid (w19.cell? ⟨w3.heap.size, 0, none⟩ = some (.int .i64 p0) ∧ w19.cell? ⟨w3.heap.size, 1, none⟩ = some (.int .i64 p1) ∧ w19.cell? ⟨w3.heap.size, 2, none⟩ = some (.int .i64 p2) ∧ w19.cell? ⟨w3.heap.size, 3, none⟩ = some (.int .i64 p3) ∧ w19.cell? ⟨w3.heap.size, 4, none⟩ = some (.int .i64 p4) ∧ w19.cell? ⟨w5.heap.size, 0, none⟩ = some (.int .i64 p0) ∧ w19.cell? ⟨w5.heap.size, 1, none⟩ = some (.int .i64 p1) ∧ w19.cell? ⟨w5.heap.size, 2, none⟩ = some (.int .i64 p2) ∧ w19.cell? ⟨w5.heap.size, 3, none⟩ = some (.int .i64 p3) ∧ w19.cell? ⟨w5.heap.size, 4, none⟩ = some (.int .i64 p4) ∧ w19.cell? ⟨(w3.heap.size + 1), 0, none⟩ = some (.int .i64 q0) ∧ w19.cell? ⟨(w3.heap.size + 1), 1, none⟩ = some (.int .i64 q1) ∧ w19.cell? ⟨(w3.heap.size + 1), 2, none⟩ = some (.int .i64 q2) ∧ w19.cell? ⟨(w3.heap.size + 1), 3, none⟩ = some (.int .i64 q3) ∧ w19.cell? ⟨(w3.heap.size + 1), 4, none⟩ = some (.int .i64 q4) ∧ w19.cell? ⟨(w5.heap.size + 1), 0, none⟩ = some (.int .i64 q0) ∧ w19.cell? ⟨(w5.heap.size + 1), 1, none⟩ = some (.int .i64 q1) ∧ w19.cell? ⟨(w5.heap.size + 1), 2, none⟩ = some (.int .i64 q2) ∧ w19.cell? ⟨(w5.heap.size + 1), 3, none⟩ = some (.int .i64 q3) ∧ w19.cell? ⟨(w5.heap.size + 1), 4, none⟩ = some (.int .i64 q4) ∧ w19.cell? ⟨w12.heap.size, 0, none⟩ = some (.int .i64 k0) ∧ w19.cell? ⟨w12.heap.size, 1, none⟩ = some (.int .i64 k1) ∧ w19.cell? ⟨w12.heap.size, 2, none⟩ = some (.int .i64 k2) ∧ w19.cell? ⟨w12.heap.size, 3, none⟩ = some (.int .i64 k3) ∧ w19.cell? ⟨w12.heap.size, 4, none⟩ = some (.int .i64 k4) ∧ w19.cell? ⟨w14.heap.size, 0, none⟩ = some (.int .i64 k0) ∧ w19.cell? ⟨w14.heap.size, 1, none⟩ = some (.int .i64 k1) ∧ w19.cell? ⟨w14.heap.size, 2, none⟩ = some (.int .i64 k2) ∧ w19.cell? ⟨w14.heap.size, 3, none⟩ = some (.int .i64 k3) ∧ w19.cell? ⟨w14.heap.size, 4, none⟩ = some (.int .i64 k4) ∧ w19.cell? ⟨w17.heap.size, 0, none⟩ = some (.int .i64 m0) ∧ w19.cell? ⟨w17.heap.size, 1, none⟩ = some (.int .i64 m1) ∧ w19.cell? ⟨w17.heap.size, 2, none⟩ = some (.int .i64 m2) ∧ w19.cell? ⟨w17.heap.size, 3, none⟩ = some (.int .i64 m3) ∧ w19.cell? ⟨w17.heap.size, 4, none⟩ = some (.int .i64 m4) ∧ w19.cell? ⟨w1.heap.size, 0, none⟩ = some (.int .i64 x) ∧ w19.cell? ⟨w1.heap.size, 1, none⟩ = some (.int .i64 y)) := hide ⟨bB8 0 _ rfl, bB8 1 _ rfl, bB8 2 _ rfl, bB8 3 _ rfl, bB8 4 _ rfl, bB12 0 _ rfl, bB12 1 _ rfl, bB12 2 _ rfl, bB12 3 _ rfl, bB12 4 _ rfl, bB9 0 _ rfl, bB9 1 _ rfl, bB9 2 _ rfl, bB9 3 _ rfl, bB9 4 _ rfl, bB13 0 _ rfl, bB13 1 _ rfl, bB13 2 _ rfl, bB13 3 _ rfl, bB13 4 _ rfl, bB27 0 _ rfl, bB27 1 _ rfl, bB27 2 _ rfl, bB27 3 _ rfl, bB27 4 _ rfl, bB29 0 _ rfl, bB29 1 _ rfl, bB29 2 _ rfl, bB29 3 _ rfl, bB29 4 _ rfl, bB32 0 _ rfl, bB32 1 _ rfl, bB32 2 _ rfl, bB32 3 _ rfl, bB32 4 _ rfl, bB4 0 _ rfl, bB4 1 _ rfl⟩) | (go_at_call 17; (with_reducible refine (specMode_as pm pm0 pm1 _ HNM).mono ?_); rintro e w20 ⟨rfl, hq⟩; have hs_w20 : w19.heap.size ≤ w20.heap.size := hq.size; replace bB4 := bB4.below hq (by omega); replace bB5 := bB5.below hq (by omega); replace bB6 := bB6.below hq (by omega); replace bB8 := bB8.below hq (by omega); replace bB9 := bB9.below hq (by omega); replace bB12 := bB12.below hq (by omega); replace bB13 := bB13.below hq (by omega); replace bB17 := bB17.below hq (by omega); replace bB18 := bB18.below hq (by omega); replace bB19 := bB19.below hq (by omega); replace bB27 := bB27.below hq (by omega); replace bB29 := bB29.below hq (by omega); replace bB32 := bB32.below hq (by omega); replace HR0 := hide (HR0.out.below hq (by omega)); replace HTb := hide (HTb.out.below hq (by omega)); replace RL := hide (RL.out.below hq (by omega)); replace Rt := hide (Rt.out.below hq (by omega)); replace Ru := hide (Ru.out.below hq (by omega)); replace HB := hide (HB.out.trans (hq.mono (by omega))); clear hq; have HSS : Hid (w20.cell? ⟨w3.heap.size, 0, none⟩ = some (.int .i64 p0) ∧ w20.cell? ⟨w3.heap.size, 1, none⟩ = some (.int .i64 p1) ∧ w20.cell? ⟨w3.heap.size, 2, none⟩ = some (.int .i64 p2) ∧ w20.cell? ⟨w3.heap.size, 3, none⟩ = some (.int .i64 p3) ∧ w20.cell? ⟨w3.heap.size, 4, none⟩ = some (.int .i64 p4) ∧ w20.cell? ⟨w5.heap.size, 0, none⟩ = some (.int .i64 p0) ∧ w20.cell? ⟨w5.heap.size, 1, none⟩ = some (.int .i64 p1) ∧ w20.cell? ⟨w5.heap.size, 2, none⟩ = some (.int .i64 p2) ∧ w20.cell? ⟨w5.heap.size, 3, none⟩ = some (.int .i64 p3) ∧ w20.cell? ⟨w5.heap.size, 4, none⟩ = some (.int .i64 p4) ∧ w20.cell? ⟨(w3.heap.size + 1), 0, none⟩ = some (.int .i64 q0) ∧ w20.cell? ⟨(w3.heap.size + 1), 1, none⟩ = some (.int .i64 q1) ∧ w20.cell? ⟨(w3.heap.size + 1), 2, none⟩ = some (.int .i64 q2) ∧ w20.cell? ⟨(w3.heap.size + 1), 3, none⟩ = some (.int .i64 q3) ∧ w20.cell? ⟨(w3.heap.size + 1), 4, none⟩ = some (.int .i64 q4) ∧ w20.cell? ⟨(w5.heap.size + 1), 0, none⟩ = some (.int .i64 q0) ∧ w20.cell? ⟨(w5.heap.size + 1), 1, none⟩ = some (.int .i64 q1) ∧ w20.cell? ⟨(w5.heap.size + 1), 2, none⟩ = some (.int .i64 q2) ∧ w20.cell? ⟨(w5.heap.size + 1), 3, none⟩ = some (.int .i64 q3) ∧ w20.cell? ⟨(w5.heap.size + 1), 4, none⟩ = some (.int .i64 q4) ∧ w20.cell? ⟨w12.heap.size, 0, none⟩ = some (.int .i64 k0) ∧ w20.cell? ⟨w12.heap.size, 1, none⟩ = some (.int .i64 k1) ∧ w20.cell? ⟨w12.heap.size, 2, none⟩ = some (.int .i64 k2) ∧ w20.cell? ⟨w12.heap.size, 3, none⟩ = some (.int .i64 k3) ∧ w20.cell? ⟨w12.heap.size, 4, none⟩ = some (.int .i64 k4) ∧ w20.cell? ⟨w14.heap.size, 0, none⟩ = some (.int .i64 k0) ∧ w20.cell? ⟨w14.heap.size, 1, none⟩ = some (.int .i64 k1) ∧ w20.cell? ⟨w14.heap.size, 2, none⟩ = some (.int .i64 k2) ∧ w20.cell? ⟨w14.heap.size, 3, none⟩ = some (.int .i64 k3) ∧ w20.cell? ⟨w14.heap.size, 4, none⟩ = some (.int .i64 k4) ∧ w20.cell? ⟨w17.heap.size, 0, none⟩ = some (.int .i64 m0) ∧ w20.cell? ⟨w17.heap.size, 1, none⟩ = some (.int .i64 m1) ∧ w20.cell? ⟨w17.heap.size, 2, none⟩ = some (.int .i64 m2) ∧ w20.cell? ⟨w17.heap.size, 3, none⟩ = some (.int .i64 m3) ∧ w20.cell? ⟨w17.heap.size, 4, none⟩ = some (.int .i64 m4) ∧ w20.cell? ⟨w1.heap.size, 0, none⟩ = some (.int .i64 x) ∧ w20.cell? ⟨w1.heap.size, 1, none⟩ = some (.int .i64 y)) := hide ⟨bB8 0 _ rfl, bB8 1 _ rfl, bB8 2 _ rfl, bB8 3 _ rfl, bB8 4 _ rfl, bB12 0 _ rfl, bB12 1 _ rfl, bB12 2 _ rfl, bB12 3 _ rfl, bB12 4 _ rfl, bB9 0 _ rfl, bB9 1 _ rfl, bB9 2 _ rfl, bB9 3 _ rfl, bB9 4 _ rfl, bB13 0 _ rfl, bB13 1 _ rfl, bB13 2 _ rfl, bB13 3 _ rfl, bB13 4 _ rfl, bB27 0 _ rfl, bB27 1 _ rfl, bB27 2 _ rfl, bB27 3 _ rfl, bB27 4 _ rfl, bB29 0 _ rfl, bB29 1 _ rfl, bB29 2 _ rfl, bB29 3 _ rfl, bB29 4 _ rfl, bB32 0 _ rfl, bB32 1 _ rfl, bB32 2 _ rfl, bB32 3 _ rfl, bB32 4 _ rfl, bB4 0 _ rfl, bB4 1 _ rfl⟩) | (go_at_call 18; (with_reducible refine (implText_as m0 m1 m2 m3 m4 _ HTb.out HTX).mono ?_); rintro e w21 ⟨rfl, hq⟩; have hs_w21 : w20.heap.size ≤ w21.heap.size := hq.size; replace bB4 := bB4.below hq (by omega); replace bB5 := bB5.below hq (by omega); replace bB6 := bB6.below hq (by omega); replace bB8 := bB8.below hq (by omega); replace bB9 := bB9.below hq (by omega); replace bB12 := bB12.below hq (by omega); replace bB13 := bB13.below hq (by omega); replace bB17 := bB17.below hq (by omega); replace bB18 := bB18.below hq (by omega); replace bB19 := bB19.below hq (by omega); replace bB27 := bB27.below hq (by omega); replace bB29 := bB29.below hq (by omega); replace bB32 := bB32.below hq (by omega); replace HR0 := hide (HR0.out.below hq (by omega)); replace HTb := hide (HTb.out.below hq (by omega)); replace RL := hide (RL.out.below hq (by omega)); replace Rt := hide (Rt.out.below hq (by omega)); replace Ru := hide (Ru.out.below hq (by omega)); replace HB := hide (HB.out.trans (hq.mono (by omega))); clear hq; have HSS : Hid (w21.cell? ⟨w3.heap.size, 0, none⟩ = some (.int .i64 p0) ∧ w21.cell? ⟨w3.heap.size, 1, none⟩ = some (.int .i64 p1) ∧ w21.cell? ⟨w3.heap.size, 2, none⟩ = some (.int .i64 p2) ∧ w21.cell? ⟨w3.heap.size, 3, none⟩ = some (.int .i64 p3) ∧ w21.cell? ⟨w3.heap.size, 4, none⟩ = some (.int .i64 p4) ∧ w21.cell? ⟨w5.heap.size, 0, none⟩ = some (.int .i64 p0) ∧ w21.cell? ⟨w5.heap.size, 1, none⟩ = some (.int .i64 p1) ∧ w21.cell? ⟨w5.heap.size, 2, none⟩ = some (.int .i64 p2) ∧ w21.cell? ⟨w5.heap.size, 3, none⟩ = some (.int .i64 p3) ∧ w21.cell? ⟨w5.heap.size, 4, none⟩ = some (.int .i64 p4) ∧ w21.cell? ⟨(w3.heap.size + 1), 0, none⟩ = some (.int .i64 q0) ∧ w21.cell? ⟨(w3.heap.size + 1), 1, none⟩ = some (.int .i64 q1) ∧ w21.cell? ⟨(w3.heap.size + 1), 2, none⟩ = some (.int .i64 q2) ∧ w21.cell? ⟨(w3.heap.size + 1), 3, none⟩ = some (.int .i64 q3) ∧ w21.cell? ⟨(w3.heap.size + 1), 4, none⟩ = some (.int .i64 q4) ∧ w21.cell? ⟨(w5.heap.size + 1), 0, none⟩ = some (.int .i64 q0) ∧ w21.cell? ⟨(w5.heap.size + 1), 1, none⟩ = some (.int .i64 q1) ∧ w21.cell? ⟨(w5.heap.size + 1), 2, none⟩ = some (.int .i64 q2) ∧ w21.cell? ⟨(w5.heap.size + 1), 3, none⟩ = some (.int .i64 q3) ∧ w21.cell? ⟨(w5.heap.size + 1), 4, none⟩ = some (.int .i64 q4) ∧ w21.cell? ⟨w12.heap.size, 0, none⟩ = some (.int .i64 k0) ∧ w21.cell? ⟨w12.heap.size, 1, none⟩ = some (.int .i64 k1) ∧ w21.cell? ⟨w12.heap.size, 2, none⟩ = some (.int .i64 k2) ∧ w21.cell? ⟨w12.heap.size, 3, none⟩ = some (.int .i64 k3) ∧ w21.cell? ⟨w12.heap.size, 4, none⟩ = some (.int .i64 k4) ∧ w21.cell? ⟨w14.heap.size, 0, none⟩ = some (.int .i64 k0) ∧ w21.cell? ⟨w14.heap.size, 1, none⟩ = some (.int .i64 k1) ∧ w21.cell? ⟨w14.heap.size, 2, none⟩ = some (.int .i64 k2) ∧ w21.cell? ⟨w14.heap.size, 3, none⟩ = some (.int .i64 k3) ∧ w21.cell? ⟨w14.heap.size, 4, none⟩ = some (.int .i64 k4) ∧ w21.cell? ⟨w17.heap.size, 0, none⟩ = some (.int .i64 m0) ∧ w21.cell? ⟨w17.heap.size, 1, none⟩ = some (.int .i64 m1) ∧ w21.cell? ⟨w17.heap.size, 2, none⟩ = some (.int .i64 m2) ∧ w21.cell? ⟨w17.heap.size, 3, none⟩ = some (.int .i64 m3) ∧ w21.cell? ⟨w17.heap.size, 4, none⟩ = some (.int .i64 m4) ∧ w21.cell? ⟨w1.heap.size, 0, none⟩ = some (.int .i64 x) ∧ w21.cell? ⟨w1.heap.size, 1, none⟩ = some (.int .i64 y)) := hide ⟨bB8 0 _ rfl, bB8 1 _ rfl, bB8 2 _ rfl, bB8 3 _ rfl, bB8 4 _ rfl, bB12 0 _ rfl, bB12 1 _ rfl, bB12 2 _ rfl, bB12 3 _ rfl, bB12 4 _ rfl, bB9 0 _ rfl, bB9 1 _ rfl, bB9 2 _ rfl, bB9 3 _ rfl, bB9 4 _ rfl, bB13 0 _ rfl, bB13 1 _ rfl, bB13 2 _ rfl, bB13 3 _ rfl, bB13 4 _ rfl, bB27 0 _ rfl, bB27 1 _ rfl, bB27 2 _ rfl, bB27 3 _ rfl, bB27 4 _ rfl, bB29 0 _ rfl, bB29 1 _ rfl, bB29 2 _ rfl, bB29 3 _ rfl, bB29 4 _ rfl, bB32 0 _ rfl, bB32 1 _ rfl, bB32 2 _ rfl, bB32 3 _ rfl, bB32 4 _ rfl, bB4 0 _ rfl, bB4 1 _ rfl⟩) | (go_at_call 19; (with_reducible refine (specText_as m0 m1 m2 m3 m4 _ HTX).mono ?_); rintro e w22 ⟨rfl, hq⟩; have hs_w22 : w21.heap.size ≤ w22.heap.size := hq.size; replace bB4 := bB4.below hq (by omega); replace bB5 := bB5.below hq (by omega); replace bB6 := bB6.below hq (by omega); replace bB8 := bB8.below hq (by omega); replace bB9 := bB9.below hq (by omega); replace bB12 := bB12.below hq (by omega); replace bB13 := bB13.below hq (by omega); replace bB17 := bB17.below hq (by omega); replace bB18 := bB18.below hq (by omega); replace bB19 := bB19.below hq (by omega); replace bB27 := bB27.below hq (by omega); replace bB29 := bB29.below hq (by omega); replace bB32 := bB32.below hq (by omega); replace HR0 := hide (HR0.out.below hq (by omega)); replace HTb := hide (HTb.out.below hq (by omega)); replace RL := hide (RL.out.below hq (by omega)); replace Rt := hide (Rt.out.below hq (by omega)); replace Ru := hide (Ru.out.below hq (by omega)); replace HB := hide (HB.out.trans (hq.mono (by omega))); clear hq; have HSS : Hid (w22.cell? ⟨w3.heap.size, 0, none⟩ = some (.int .i64 p0) ∧ w22.cell? ⟨w3.heap.size, 1, none⟩ = some (.int .i64 p1) ∧ w22.cell? ⟨w3.heap.size, 2, none⟩ = some (.int .i64 p2) ∧ w22.cell? ⟨w3.heap.size, 3, none⟩ = some (.int .i64 p3) ∧ w22.cell? ⟨w3.heap.size, 4, none⟩ = some (.int .i64 p4) ∧ w22.cell? ⟨w5.heap.size, 0, none⟩ = some (.int .i64 p0) ∧ w22.cell? ⟨w5.heap.size, 1, none⟩ = some (.int .i64 p1) ∧ w22.cell? ⟨w5.heap.size, 2, none⟩ = some (.int .i64 p2) ∧ w22.cell? ⟨w5.heap.size, 3, none⟩ = some (.int .i64 p3) ∧ w22.cell? ⟨w5.heap.size, 4, none⟩ = some (.int .i64 p4) ∧ w22.cell? ⟨(w3.heap.size + 1), 0, none⟩ = some (.int .i64 q0) ∧ w22.cell? ⟨(w3.heap.size + 1), 1, none⟩ = some (.int .i64 q1) ∧ w22.cell? ⟨(w3.heap.size + 1), 2, none⟩ = some (.int .i64 q2) ∧ w22.cell? ⟨(w3.heap.size + 1), 3, none⟩ = some (.int .i64 q3) ∧ w22.cell? ⟨(w3.heap.size + 1), 4, none⟩ = some (.int .i64 q4) ∧ w22.cell? ⟨(w5.heap.size + 1), 0, none⟩ = some (.int .i64 q0) ∧ w22.cell? ⟨(w5.heap.size + 1), 1, none⟩ = some (.int .i64 q1) ∧ w22.cell? ⟨(w5.heap.size + 1), 2, none⟩ = some (.int .i64 q2) ∧ w22.cell? ⟨(w5.heap.size + 1), 3, none⟩ = some (.int .i64 q3) ∧ w22.cell? ⟨(w5.heap.size + 1), 4, none⟩ = some (.int .i64 q4) ∧ w22.cell? ⟨w12.heap.size, 0, none⟩ = some (.int .i64 k0) ∧ w22.cell? ⟨w12.heap.size, 1, none⟩ = some (.int .i64 k1) ∧ w22.cell? ⟨w12.heap.size, 2, none⟩ = some (.int .i64 k2) ∧ w22.cell? ⟨w12.heap.size, 3, none⟩ = some (.int .i64 k3) ∧ w22.cell? ⟨w12.heap.size, 4, none⟩ = some (.int .i64 k4) ∧ w22.cell? ⟨w14.heap.size, 0, none⟩ = some (.int .i64 k0) ∧ w22.cell? ⟨w14.heap.size, 1, none⟩ = some (.int .i64 k1) ∧ w22.cell? ⟨w14.heap.size, 2, none⟩ = some (.int .i64 k2) ∧ w22.cell? ⟨w14.heap.size, 3, none⟩ = some (.int .i64 k3) ∧ w22.cell? ⟨w14.heap.size, 4, none⟩ = some (.int .i64 k4) ∧ w22.cell? ⟨w17.heap.size, 0, none⟩ = some (.int .i64 m0) ∧ w22.cell? ⟨w17.heap.size, 1, none⟩ = some (.int .i64 m1) ∧ w22.cell? ⟨w17.heap.size, 2, none⟩ = some (.int .i64 m2) ∧ w22.cell? ⟨w17.heap.size, 3, none⟩ = some (.int .i64 m3) ∧ w22.cell? ⟨w17.heap.size, 4, none⟩ = some (.int .i64 m4) ∧ w22.cell? ⟨w1.heap.size, 0, none⟩ = some (.int .i64 x) ∧ w22.cell? ⟨w1.heap.size, 1, none⟩ = some (.int .i64 y)) := hide ⟨bB8 0 _ rfl, bB8 1 _ rfl, bB8 2 _ rfl, bB8 3 _ rfl, bB8 4 _ rfl, bB12 0 _ rfl, bB12 1 _ rfl, bB12 2 _ rfl, bB12 3 _ rfl, bB12 4 _ rfl, bB9 0 _ rfl, bB9 1 _ rfl, bB9 2 _ rfl, bB9 3 _ rfl, bB9 4 _ rfl, bB13 0 _ rfl, bB13 1 _ rfl, bB13 2 _ rfl, bB13 3 _ rfl, bB13 4 _ rfl, bB27 0 _ rfl, bB27 1 _ rfl, bB27 2 _ rfl, bB27 3 _ rfl, bB27 4 _ rfl, bB29 0 _ rfl, bB29 1 _ rfl, bB29 2 _ rfl, bB29 3 _ rfl, bB29 4 _ rfl, bB32 0 _ rfl, bB32 1 _ rfl, bB32 2 _ rfl, bB32 3 _ rfl, bB32 4 _ rfl, bB4 0 _ rfl, bB4 1 _ rfl⟩) | (go_at_call 20; (with_reducible refine (implVC_as m0 m1 m2 m3 m4 _ HOK).mono ?_); rintro e w23 ⟨rfl, hq⟩; have hs_w23 : w22.heap.size ≤ w23.heap.size := hq.size; replace bB4 := bB4.below hq (by omega); replace bB5 := bB5.below hq (by omega); replace bB6 := bB6.below hq (by omega); replace bB8 := bB8.below hq (by omega); replace bB9 := bB9.below hq (by omega); replace bB12 := bB12.below hq (by omega); replace bB13 := bB13.below hq (by omega); replace bB17 := bB17.below hq (by omega); replace bB18 := bB18.below hq (by omega); replace bB19 := bB19.below hq (by omega); replace bB27 := bB27.below hq (by omega); replace bB29 := bB29.below hq (by omega); replace bB32 := bB32.below hq (by omega); replace HR0 := hide (HR0.out.below hq (by omega)); replace HTb := hide (HTb.out.below hq (by omega)); replace RL := hide (RL.out.below hq (by omega)); replace Rt := hide (Rt.out.below hq (by omega)); replace Ru := hide (Ru.out.below hq (by omega)); replace HB := hide (HB.out.trans (hq.mono (by omega))); clear hq; have HSS : Hid (w23.cell? ⟨w3.heap.size, 0, none⟩ = some (.int .i64 p0) ∧ w23.cell? ⟨w3.heap.size, 1, none⟩ = some (.int .i64 p1) ∧ w23.cell? ⟨w3.heap.size, 2, none⟩ = some (.int .i64 p2) ∧ w23.cell? ⟨w3.heap.size, 3, none⟩ = some (.int .i64 p3) ∧ w23.cell? ⟨w3.heap.size, 4, none⟩ = some (.int .i64 p4) ∧ w23.cell? ⟨w5.heap.size, 0, none⟩ = some (.int .i64 p0) ∧ w23.cell? ⟨w5.heap.size, 1, none⟩ = some (.int .i64 p1) ∧ w23.cell? ⟨w5.heap.size, 2, none⟩ = some (.int .i64 p2) ∧ w23.cell? ⟨w5.heap.size, 3, none⟩ = some (.int .i64 p3) ∧ w23.cell? ⟨w5.heap.size, 4, none⟩ = some (.int .i64 p4) ∧ w23.cell? ⟨(w3.heap.size + 1), 0, none⟩ = some (.int .i64 q0) ∧ w23.cell? ⟨(w3.heap.size + 1), 1, none⟩ = some (.int .i64 q1) ∧ w23.cell? ⟨(w3.heap.size + 1), 2, none⟩ = some (.int .i64 q2) ∧ w23.cell? ⟨(w3.heap.size + 1), 3, none⟩ = some (.int .i64 q3) ∧ w23.cell? ⟨(w3.heap.size + 1), 4, none⟩ = some (.int .i64 q4) ∧ w23.cell? ⟨(w5.heap.size + 1), 0, none⟩ = some (.int .i64 q0) ∧ w23.cell? ⟨(w5.heap.size + 1), 1, none⟩ = some (.int .i64 q1) ∧ w23.cell? ⟨(w5.heap.size + 1), 2, none⟩ = some (.int .i64 q2) ∧ w23.cell? ⟨(w5.heap.size + 1), 3, none⟩ = some (.int .i64 q3) ∧ w23.cell? ⟨(w5.heap.size + 1), 4, none⟩ = some (.int .i64 q4) ∧ w23.cell? ⟨w12.heap.size, 0, none⟩ = some (.int .i64 k0) ∧ w23.cell? ⟨w12.heap.size, 1, none⟩ = some (.int .i64 k1) ∧ w23.cell? ⟨w12.heap.size, 2, none⟩ = some (.int .i64 k2) ∧ w23.cell? ⟨w12.heap.size, 3, none⟩ = some (.int .i64 k3) ∧ w23.cell? ⟨w12.heap.size, 4, none⟩ = some (.int .i64 k4) ∧ w23.cell? ⟨w14.heap.size, 0, none⟩ = some (.int .i64 k0) ∧ w23.cell? ⟨w14.heap.size, 1, none⟩ = some (.int .i64 k1) ∧ w23.cell? ⟨w14.heap.size, 2, none⟩ = some (.int .i64 k2) ∧ w23.cell? ⟨w14.heap.size, 3, none⟩ = some (.int .i64 k3) ∧ w23.cell? ⟨w14.heap.size, 4, none⟩ = some (.int .i64 k4) ∧ w23.cell? ⟨w17.heap.size, 0, none⟩ = some (.int .i64 m0) ∧ w23.cell? ⟨w17.heap.size, 1, none⟩ = some (.int .i64 m1) ∧ w23.cell? ⟨w17.heap.size, 2, none⟩ = some (.int .i64 m2) ∧ w23.cell? ⟨w17.heap.size, 3, none⟩ = some (.int .i64 m3) ∧ w23.cell? ⟨w17.heap.size, 4, none⟩ = some (.int .i64 m4) ∧ w23.cell? ⟨w1.heap.size, 0, none⟩ = some (.int .i64 x) ∧ w23.cell? ⟨w1.heap.size, 1, none⟩ = some (.int .i64 y)) := hide ⟨bB8 0 _ rfl, bB8 1 _ rfl, bB8 2 _ rfl, bB8 3 _ rfl, bB8 4 _ rfl, bB12 0 _ rfl, bB12 1 _ rfl, bB12 2 _ rfl, bB12 3 _ rfl, bB12 4 _ rfl, bB9 0 _ rfl, bB9 1 _ rfl, bB9 2 _ rfl, bB9 3 _ rfl, bB9 4 _ rfl, bB13 0 _ rfl, bB13 1 _ rfl, bB13 2 _ rfl, bB13 3 _ rfl, bB13 4 _ rfl, bB27 0 _ rfl, bB27 1 _ rfl, bB27 2 _ rfl, bB27 3 _ rfl, bB27 4 _ rfl, bB29 0 _ rfl, bB29 1 _ rfl, bB29 2 _ rfl, bB29 3 _ rfl, bB29 4 _ rfl, bB32 0 _ rfl, bB32 1 _ rfl, bB32 2 _ rfl, bB32 3 _ rfl, bB32 4 _ rfl, bB4 0 _ rfl, bB4 1 _ rfl⟩) | (go_at_call 21; (with_reducible refine (specVC_as m0 m1 m2 m3 m4 _ HOK).mono ?_); rintro e w24 ⟨rfl, hq⟩; have hs_w24 : w23.heap.size ≤ w24.heap.size := hq.size; replace bB4 := bB4.below hq (by omega); replace bB5 := bB5.below hq (by omega); replace bB6 := bB6.below hq (by omega); replace bB8 := bB8.below hq (by omega); replace bB9 := bB9.below hq (by omega); replace bB12 := bB12.below hq (by omega); replace bB13 := bB13.below hq (by omega); replace bB17 := bB17.below hq (by omega); replace bB18 := bB18.below hq (by omega); replace bB19 := bB19.below hq (by omega); replace bB27 := bB27.below hq (by omega); replace bB29 := bB29.below hq (by omega); replace bB32 := bB32.below hq (by omega); replace HR0 := hide (HR0.out.below hq (by omega)); replace HTb := hide (HTb.out.below hq (by omega)); replace RL := hide (RL.out.below hq (by omega)); replace Rt := hide (Rt.out.below hq (by omega)); replace Ru := hide (Ru.out.below hq (by omega)); replace HB := hide (HB.out.trans (hq.mono (by omega))); clear hq; have HSS : Hid (w24.cell? ⟨w3.heap.size, 0, none⟩ = some (.int .i64 p0) ∧ w24.cell? ⟨w3.heap.size, 1, none⟩ = some (.int .i64 p1) ∧ w24.cell? ⟨w3.heap.size, 2, none⟩ = some (.int .i64 p2) ∧ w24.cell? ⟨w3.heap.size, 3, none⟩ = some (.int .i64 p3) ∧ w24.cell? ⟨w3.heap.size, 4, none⟩ = some (.int .i64 p4) ∧ w24.cell? ⟨w5.heap.size, 0, none⟩ = some (.int .i64 p0) ∧ w24.cell? ⟨w5.heap.size, 1, none⟩ = some (.int .i64 p1) ∧ w24.cell? ⟨w5.heap.size, 2, none⟩ = some (.int .i64 p2) ∧ w24.cell? ⟨w5.heap.size, 3, none⟩ = some (.int .i64 p3) ∧ w24.cell? ⟨w5.heap.size, 4, none⟩ = some (.int .i64 p4) ∧ w24.cell? ⟨(w3.heap.size + 1), 0, none⟩ = some (.int .i64 q0) ∧ w24.cell? ⟨(w3.heap.size + 1), 1, none⟩ = some (.int .i64 q1) ∧ w24.cell? ⟨(w3.heap.size + 1), 2, none⟩ = some (.int .i64 q2) ∧ w24.cell? ⟨(w3.heap.size + 1), 3, none⟩ = some (.int .i64 q3) ∧ w24.cell? ⟨(w3.heap.size + 1), 4, none⟩ = some (.int .i64 q4) ∧ w24.cell? ⟨(w5.heap.size + 1), 0, none⟩ = some (.int .i64 q0) ∧ w24.cell? ⟨(w5.heap.size + 1), 1, none⟩ = some (.int .i64 q1) ∧ w24.cell? ⟨(w5.heap.size + 1), 2, none⟩ = some (.int .i64 q2) ∧ w24.cell? ⟨(w5.heap.size + 1), 3, none⟩ = some (.int .i64 q3) ∧ w24.cell? ⟨(w5.heap.size + 1), 4, none⟩ = some (.int .i64 q4) ∧ w24.cell? ⟨w12.heap.size, 0, none⟩ = some (.int .i64 k0) ∧ w24.cell? ⟨w12.heap.size, 1, none⟩ = some (.int .i64 k1) ∧ w24.cell? ⟨w12.heap.size, 2, none⟩ = some (.int .i64 k2) ∧ w24.cell? ⟨w12.heap.size, 3, none⟩ = some (.int .i64 k3) ∧ w24.cell? ⟨w12.heap.size, 4, none⟩ = some (.int .i64 k4) ∧ w24.cell? ⟨w14.heap.size, 0, none⟩ = some (.int .i64 k0) ∧ w24.cell? ⟨w14.heap.size, 1, none⟩ = some (.int .i64 k1) ∧ w24.cell? ⟨w14.heap.size, 2, none⟩ = some (.int .i64 k2) ∧ w24.cell? ⟨w14.heap.size, 3, none⟩ = some (.int .i64 k3) ∧ w24.cell? ⟨w14.heap.size, 4, none⟩ = some (.int .i64 k4) ∧ w24.cell? ⟨w17.heap.size, 0, none⟩ = some (.int .i64 m0) ∧ w24.cell? ⟨w17.heap.size, 1, none⟩ = some (.int .i64 m1) ∧ w24.cell? ⟨w17.heap.size, 2, none⟩ = some (.int .i64 m2) ∧ w24.cell? ⟨w17.heap.size, 3, none⟩ = some (.int .i64 m3) ∧ w24.cell? ⟨w17.heap.size, 4, none⟩ = some (.int .i64 m4) ∧ w24.cell? ⟨w1.heap.size, 0, none⟩ = some (.int .i64 x) ∧ w24.cell? ⟨w1.heap.size, 1, none⟩ = some (.int .i64 y)) := hide ⟨bB8 0 _ rfl, bB8 1 _ rfl, bB8 2 _ rfl, bB8 3 _ rfl, bB8 4 _ rfl, bB12 0 _ rfl, bB12 1 _ rfl, bB12 2 _ rfl, bB12 3 _ rfl, bB12 4 _ rfl, bB9 0 _ rfl, bB9 1 _ rfl, bB9 2 _ rfl, bB9 3 _ rfl, bB9 4 _ rfl, bB13 0 _ rfl, bB13 1 _ rfl, bB13 2 _ rfl, bB13 3 _ rfl, bB13 4 _ rfl, bB27 0 _ rfl, bB27 1 _ rfl, bB27 2 _ rfl, bB27 3 _ rfl, bB27 4 _ rfl, bB29 0 _ rfl, bB29 1 _ rfl, bB29 2 _ rfl, bB29 3 _ rfl, bB29 4 _ rfl, bB32 0 _ rfl, bB32 1 _ rfl, bB32 2 _ rfl, bB32 3 _ rfl, bB32 4 _ rfl, bB4 0 _ rfl, bB4 1 _ rfl⟩) | (go_at_call 22; (with_reducible refine (implVR_as x y _ HRU).mono ?_); rintro e w25 ⟨rfl, hq⟩; have hs_w25 : w24.heap.size ≤ w25.heap.size := hq.size; replace bB4 := bB4.below hq (by omega); replace bB5 := bB5.below hq (by omega); replace bB6 := bB6.below hq (by omega); replace bB8 := bB8.below hq (by omega); replace bB9 := bB9.below hq (by omega); replace bB12 := bB12.below hq (by omega); replace bB13 := bB13.below hq (by omega); replace bB17 := bB17.below hq (by omega); replace bB18 := bB18.below hq (by omega); replace bB19 := bB19.below hq (by omega); replace bB27 := bB27.below hq (by omega); replace bB29 := bB29.below hq (by omega); replace bB32 := bB32.below hq (by omega); replace HR0 := hide (HR0.out.below hq (by omega)); replace HTb := hide (HTb.out.below hq (by omega)); replace RL := hide (RL.out.below hq (by omega)); replace Rt := hide (Rt.out.below hq (by omega)); replace Ru := hide (Ru.out.below hq (by omega)); replace HB := hide (HB.out.trans (hq.mono (by omega))); clear hq; have HSS : Hid (w25.cell? ⟨w3.heap.size, 0, none⟩ = some (.int .i64 p0) ∧ w25.cell? ⟨w3.heap.size, 1, none⟩ = some (.int .i64 p1) ∧ w25.cell? ⟨w3.heap.size, 2, none⟩ = some (.int .i64 p2) ∧ w25.cell? ⟨w3.heap.size, 3, none⟩ = some (.int .i64 p3) ∧ w25.cell? ⟨w3.heap.size, 4, none⟩ = some (.int .i64 p4) ∧ w25.cell? ⟨w5.heap.size, 0, none⟩ = some (.int .i64 p0) ∧ w25.cell? ⟨w5.heap.size, 1, none⟩ = some (.int .i64 p1) ∧ w25.cell? ⟨w5.heap.size, 2, none⟩ = some (.int .i64 p2) ∧ w25.cell? ⟨w5.heap.size, 3, none⟩ = some (.int .i64 p3) ∧ w25.cell? ⟨w5.heap.size, 4, none⟩ = some (.int .i64 p4) ∧ w25.cell? ⟨(w3.heap.size + 1), 0, none⟩ = some (.int .i64 q0) ∧ w25.cell? ⟨(w3.heap.size + 1), 1, none⟩ = some (.int .i64 q1) ∧ w25.cell? ⟨(w3.heap.size + 1), 2, none⟩ = some (.int .i64 q2) ∧ w25.cell? ⟨(w3.heap.size + 1), 3, none⟩ = some (.int .i64 q3) ∧ w25.cell? ⟨(w3.heap.size + 1), 4, none⟩ = some (.int .i64 q4) ∧ w25.cell? ⟨(w5.heap.size + 1), 0, none⟩ = some (.int .i64 q0) ∧ w25.cell? ⟨(w5.heap.size + 1), 1, none⟩ = some (.int .i64 q1) ∧ w25.cell? ⟨(w5.heap.size + 1), 2, none⟩ = some (.int .i64 q2) ∧ w25.cell? ⟨(w5.heap.size + 1), 3, none⟩ = some (.int .i64 q3) ∧ w25.cell? ⟨(w5.heap.size + 1), 4, none⟩ = some (.int .i64 q4) ∧ w25.cell? ⟨w12.heap.size, 0, none⟩ = some (.int .i64 k0) ∧ w25.cell? ⟨w12.heap.size, 1, none⟩ = some (.int .i64 k1) ∧ w25.cell? ⟨w12.heap.size, 2, none⟩ = some (.int .i64 k2) ∧ w25.cell? ⟨w12.heap.size, 3, none⟩ = some (.int .i64 k3) ∧ w25.cell? ⟨w12.heap.size, 4, none⟩ = some (.int .i64 k4) ∧ w25.cell? ⟨w14.heap.size, 0, none⟩ = some (.int .i64 k0) ∧ w25.cell? ⟨w14.heap.size, 1, none⟩ = some (.int .i64 k1) ∧ w25.cell? ⟨w14.heap.size, 2, none⟩ = some (.int .i64 k2) ∧ w25.cell? ⟨w14.heap.size, 3, none⟩ = some (.int .i64 k3) ∧ w25.cell? ⟨w14.heap.size, 4, none⟩ = some (.int .i64 k4) ∧ w25.cell? ⟨w17.heap.size, 0, none⟩ = some (.int .i64 m0) ∧ w25.cell? ⟨w17.heap.size, 1, none⟩ = some (.int .i64 m1) ∧ w25.cell? ⟨w17.heap.size, 2, none⟩ = some (.int .i64 m2) ∧ w25.cell? ⟨w17.heap.size, 3, none⟩ = some (.int .i64 m3) ∧ w25.cell? ⟨w17.heap.size, 4, none⟩ = some (.int .i64 m4) ∧ w25.cell? ⟨w1.heap.size, 0, none⟩ = some (.int .i64 x) ∧ w25.cell? ⟨w1.heap.size, 1, none⟩ = some (.int .i64 y)) := hide ⟨bB8 0 _ rfl, bB8 1 _ rfl, bB8 2 _ rfl, bB8 3 _ rfl, bB8 4 _ rfl, bB12 0 _ rfl, bB12 1 _ rfl, bB12 2 _ rfl, bB12 3 _ rfl, bB12 4 _ rfl, bB9 0 _ rfl, bB9 1 _ rfl, bB9 2 _ rfl, bB9 3 _ rfl, bB9 4 _ rfl, bB13 0 _ rfl, bB13 1 _ rfl, bB13 2 _ rfl, bB13 3 _ rfl, bB13 4 _ rfl, bB27 0 _ rfl, bB27 1 _ rfl, bB27 2 _ rfl, bB27 3 _ rfl, bB27 4 _ rfl, bB29 0 _ rfl, bB29 1 _ rfl, bB29 2 _ rfl, bB29 3 _ rfl, bB29 4 _ rfl, bB32 0 _ rfl, bB32 1 _ rfl, bB32 2 _ rfl, bB32 3 _ rfl, bB32 4 _ rfl, bB4 0 _ rfl, bB4 1 _ rfl⟩) | (go_at_call 23; (with_reducible refine (specVR_as x y _ HRU).mono ?_); rintro e w26 ⟨rfl, hq⟩; have hs_w26 : w25.heap.size ≤ w26.heap.size := hq.size; replace bB4 := bB4.below hq (by omega); replace bB5 := bB5.below hq (by omega); replace bB6 := bB6.below hq (by omega); replace bB8 := bB8.below hq (by omega); replace bB9 := bB9.below hq (by omega); replace bB12 := bB12.below hq (by omega); replace bB13 := bB13.below hq (by omega); replace bB17 := bB17.below hq (by omega); replace bB18 := bB18.below hq (by omega); replace bB19 := bB19.below hq (by omega); replace bB27 := bB27.below hq (by omega); replace bB29 := bB29.below hq (by omega); replace bB32 := bB32.below hq (by omega); replace HR0 := hide (HR0.out.below hq (by omega)); replace HTb := hide (HTb.out.below hq (by omega)); replace RL := hide (RL.out.below hq (by omega)); replace Rt := hide (Rt.out.below hq (by omega)); replace Ru := hide (Ru.out.below hq (by omega)); replace HB := hide (HB.out.trans (hq.mono (by omega))); clear hq; have HSS : Hid (w26.cell? ⟨w3.heap.size, 0, none⟩ = some (.int .i64 p0) ∧ w26.cell? ⟨w3.heap.size, 1, none⟩ = some (.int .i64 p1) ∧ w26.cell? ⟨w3.heap.size, 2, none⟩ = some (.int .i64 p2) ∧ w26.cell? ⟨w3.heap.size, 3, none⟩ = some (.int .i64 p3) ∧ w26.cell? ⟨w3.heap.size, 4, none⟩ = some (.int .i64 p4) ∧ w26.cell? ⟨w5.heap.size, 0, none⟩ = some (.int .i64 p0) ∧ w26.cell? ⟨w5.heap.size, 1, none⟩ = some (.int .i64 p1) ∧ w26.cell? ⟨w5.heap.size, 2, none⟩ = some (.int .i64 p2) ∧ w26.cell? ⟨w5.heap.size, 3, none⟩ = some (.int .i64 p3) ∧ w26.cell? ⟨w5.heap.size, 4, none⟩ = some (.int .i64 p4) ∧ w26.cell? ⟨(w3.heap.size + 1), 0, none⟩ = some (.int .i64 q0) ∧ w26.cell? ⟨(w3.heap.size + 1), 1, none⟩ = some (.int .i64 q1) ∧ w26.cell? ⟨(w3.heap.size + 1), 2, none⟩ = some (.int .i64 q2) ∧ w26.cell? ⟨(w3.heap.size + 1), 3, none⟩ = some (.int .i64 q3) ∧ w26.cell? ⟨(w3.heap.size + 1), 4, none⟩ = some (.int .i64 q4) ∧ w26.cell? ⟨(w5.heap.size + 1), 0, none⟩ = some (.int .i64 q0) ∧ w26.cell? ⟨(w5.heap.size + 1), 1, none⟩ = some (.int .i64 q1) ∧ w26.cell? ⟨(w5.heap.size + 1), 2, none⟩ = some (.int .i64 q2) ∧ w26.cell? ⟨(w5.heap.size + 1), 3, none⟩ = some (.int .i64 q3) ∧ w26.cell? ⟨(w5.heap.size + 1), 4, none⟩ = some (.int .i64 q4) ∧ w26.cell? ⟨w12.heap.size, 0, none⟩ = some (.int .i64 k0) ∧ w26.cell? ⟨w12.heap.size, 1, none⟩ = some (.int .i64 k1) ∧ w26.cell? ⟨w12.heap.size, 2, none⟩ = some (.int .i64 k2) ∧ w26.cell? ⟨w12.heap.size, 3, none⟩ = some (.int .i64 k3) ∧ w26.cell? ⟨w12.heap.size, 4, none⟩ = some (.int .i64 k4) ∧ w26.cell? ⟨w14.heap.size, 0, none⟩ = some (.int .i64 k0) ∧ w26.cell? ⟨w14.heap.size, 1, none⟩ = some (.int .i64 k1) ∧ w26.cell? ⟨w14.heap.size, 2, none⟩ = some (.int .i64 k2) ∧ w26.cell? ⟨w14.heap.size, 3, none⟩ = some (.int .i64 k3) ∧ w26.cell? ⟨w14.heap.size, 4, none⟩ = some (.int .i64 k4) ∧ w26.cell? ⟨w17.heap.size, 0, none⟩ = some (.int .i64 m0) ∧ w26.cell? ⟨w17.heap.size, 1, none⟩ = some (.int .i64 m1) ∧ w26.cell? ⟨w17.heap.size, 2, none⟩ = some (.int .i64 m2) ∧ w26.cell? ⟨w17.heap.size, 3, none⟩ = some (.int .i64 m3) ∧ w26.cell? ⟨w17.heap.size, 4, none⟩ = some (.int .i64 m4) ∧ w26.cell? ⟨w1.heap.size, 0, none⟩ = some (.int .i64 x) ∧ w26.cell? ⟨w1.heap.size, 1, none⟩ = some (.int .i64 y)) := hide ⟨bB8 0 _ rfl, bB8 1 _ rfl, bB8 2 _ rfl, bB8 3 _ rfl, bB8 4 _ rfl, bB12 0 _ rfl, bB12 1 _ rfl, bB12 2 _ rfl, bB12 3 _ rfl, bB12 4 _ rfl, bB9 0 _ rfl, bB9 1 _ rfl, bB9 2 _ rfl, bB9 3 _ rfl, bB9 4 _ rfl, bB13 0 _ rfl, bB13 1 _ rfl, bB13 2 _ rfl, bB13 3 _ rfl, bB13 4 _ rfl, bB27 0 _ rfl, bB27 1 _ rfl, bB27 2 _ rfl, bB27 3 _ rfl, bB27 4 _ rfl, bB29 0 _ rfl, bB29 1 _ rfl, bB29 2 _ rfl, bB29 3 _ rfl, bB29 4 _ rfl, bB32 0 _ rfl, bB32 1 _ rfl, bB32 2 _ rfl, bB32 3 _ rfl, bB32 4 _ rfl, bB4 0 _ rfl, bB4 1 _ rfl⟩))
    clear HSS
    by_cases hcc : cc = 0
    · subst hcc
      clear bB12
      clear bB13
      clear bB17
      clear bB18
      clear bB19
      clear bB27
      clear bB29
      clear bB32
      clear HR0
      clear RL
      clear HTb
      clear Ru
      obtain ⟨r1, r2, r3, r4⟩ := rounds_law (show (rsV Tt x y (a0, a1, a2, a3, a4) (d0, d1, d2, d3, d4) L).2.2 = 0 by rw [HP.out])
      rw [HP.out] at r2 r3 r4
      obtain ⟨okT', okr, oka, okd⟩ := codeC_parts r1
      have ba : 0 ≤ a0 ∧ a0 ≤ 23 := (ctlOk_true oka).1
      have bd' : 0 ≤ d0 ∧ d0 ≤ 23 := (ctlOk_true okd).1
      have E1 : Hid (ctlOk p0 p1 p2 p3 p4 = true) := hide r2
      have E2 : Hid (ctlOk q0 q1 q2 q3 q4 = true) := hide r3
      have E4 := hide r4
      have OKT := hide okT'
      clear r1 r2 r3 r4 okr oka okd okT'
      obtain ⟨ka, rfl⟩ : ∃ k : Nat, a0 = k := ⟨a0.toNat, by omega⟩
      obtain ⟨kd, rfl⟩ : ∃ k : Nat, d0 = k := ⟨d0.toNat, by omega⟩
      have lB4_0 := bB4 0 _ rfl
      have lB4_1 := bB4 1 _ rfl
      have lB5_0 := bB5 0 _ rfl
      have lB5_1 := bB5 1 _ rfl
      have lB5_2 := bB5 2 _ rfl
      have lB5_3 := bB5 3 _ rfl
      have lB5_4 := bB5 4 _ rfl
      have lB6_0 := bB6 0 _ rfl
      have lB6_1 := bB6 1 _ rfl
      have lB6_2 := bB6 2 _ rfl
      have lB6_3 := bB6 3 _ rfl
      have lB6_4 := bB6 4 _ rfl
      have lB8_0 := bB8 0 _ rfl
      have lB8_1 := bB8 1 _ rfl
      have lB8_2 := bB8 2 _ rfl
      have lB8_3 := bB8 3 _ rfl
      have lB8_4 := bB8 4 _ rfl
      have lB9_0 := bB9 0 _ rfl
      have lB9_1 := bB9 1 _ rfl
      have lB9_2 := bB9 2 _ rfl
      have lB9_3 := bB9 3 _ rfl
      have lB9_4 := bB9 4 _ rfl
      cases e1 : (a2 == (kd : Int))
      · cases em : decide (1 ≤ x)
        · go_wp2_with fail
          go_quiet (fail)
          go_wp2_with fail
          clear lB4_0 lB4_1 lB5_0 lB5_1 lB5_2 lB5_3 lB5_4 lB6_0 lB6_1 lB6_2 lB6_3 lB6_4 lB8_0 lB8_1 lB8_2 lB8_3 lB8_4 lB9_0 lB9_1 lB9_2 lB9_3 lB9_4
          clear Rt
          have hq : Below w26.heap.size w26 (w26.drewN nq) := Joins.below_draws _ _ _
          have hsd : (w26.drewN nq).heap.size = w26.heap.size := rfl
          replace bB4 := bB4.below hq (by omega)
          replace bB5 := bB5.below hq (by omega)
          replace bB6 := bB6.below hq (by omega)
          replace bB8 := bB8.below hq (by omega)
          replace bB9 := bB9.below hq (by omega)
          replace HB := hide (HB.out.trans (hq.mono (by omega)))
          clear hq
          generalize (w26.drewN nq) = wz at *
          refine (implVC_as p0 p1 p2 p3 p4 _ E1).mono ?_
          rintro e w27 ⟨rfl, hq⟩
          have hs_w27 : wz.heap.size ≤ w27.heap.size := hq.size
          replace bB4 := bB4.below hq (by omega)
          replace bB5 := bB5.below hq (by omega)
          replace bB6 := bB6.below hq (by omega)
          replace bB8 := bB8.below hq (by omega)
          replace bB9 := bB9.below hq (by omega)
          replace HB := hide (HB.out.trans (hq.mono (by omega)))
          clear hq
          have lB9_0 := bB9 0 _ rfl
          have lB9_1 := bB9 1 _ rfl
          have lB9_2 := bB9 2 _ rfl
          have lB9_3 := bB9 3 _ rfl
          have lB9_4 := bB9 4 _ rfl
          go_wp2_with fail
          clear lB9_0 lB9_1 lB9_2 lB9_3 lB9_4
          refine (implVC_as q0 q1 q2 q3 q4 _ E2).mono ?_
          rintro e w28 ⟨rfl, hq⟩
          have hs_w28 : w27.heap.size ≤ w28.heap.size := hq.size
          replace bB4 := bB4.below hq (by omega)
          replace bB5 := bB5.below hq (by omega)
          replace bB6 := bB6.below hq (by omega)
          replace bB8 := bB8.below hq (by omega)
          replace bB9 := bB9.below hq (by omega)
          replace HB := hide (HB.out.trans (hq.mono (by omega)))
          clear hq
          go_wp2_with fail
          go_ret
          exact ⟨rfl, HB.out⟩
        · go_wp2_with fail
          go_quiet (fail)
          go_wp2_with fail
          clear lB4_0 lB4_1 lB5_0 lB5_1 lB5_2 lB5_3 lB5_4 lB6_0 lB6_1 lB6_2 lB6_3 lB6_4 lB8_0 lB8_1 lB8_2 lB8_3 lB8_4 lB9_0 lB9_1 lB9_2 lB9_3 lB9_4
          clear Rt
          have hq : Below w26.heap.size w26 (w26.drewN nq) := Joins.below_draws _ _ _
          have hsd : (w26.drewN nq).heap.size = w26.heap.size := rfl
          replace bB4 := bB4.below hq (by omega)
          replace bB5 := bB5.below hq (by omega)
          replace bB6 := bB6.below hq (by omega)
          replace bB8 := bB8.below hq (by omega)
          replace bB9 := bB9.below hq (by omega)
          replace HB := hide (HB.out.trans (hq.mono (by omega)))
          clear hq
          generalize (w26.drewN nq) = wz at *
          refine (implVC_as p0 p1 p2 p3 p4 _ E1).mono ?_
          rintro e w27 ⟨rfl, hq⟩
          have hs_w27 : wz.heap.size ≤ w27.heap.size := hq.size
          replace bB4 := bB4.below hq (by omega)
          replace bB5 := bB5.below hq (by omega)
          replace bB6 := bB6.below hq (by omega)
          replace bB8 := bB8.below hq (by omega)
          replace bB9 := bB9.below hq (by omega)
          replace HB := hide (HB.out.trans (hq.mono (by omega)))
          clear hq
          have lB9_0 := bB9 0 _ rfl
          have lB9_1 := bB9 1 _ rfl
          have lB9_2 := bB9 2 _ rfl
          have lB9_3 := bB9 3 _ rfl
          have lB9_4 := bB9 4 _ rfl
          go_wp2_with fail
          clear lB9_0 lB9_1 lB9_2 lB9_3 lB9_4
          refine (implVC_as q0 q1 q2 q3 q4 _ E2).mono ?_
          rintro e w28 ⟨rfl, hq⟩
          have hs_w28 : w27.heap.size ≤ w28.heap.size := hq.size
          replace bB4 := bB4.below hq (by omega)
          replace bB5 := bB5.below hq (by omega)
          replace bB6 := bB6.below hq (by omega)
          replace bB8 := bB8.below hq (by omega)
          replace bB9 := bB9.below hq (by omega)
          replace HB := hide (HB.out.trans (hq.mono (by omega)))
          clear hq
          go_wp2_with fail
          go_ret
          exact ⟨rfl, HB.out⟩
      · cases e2 : (d2 == (ka : Int))
        · cases em : decide (1 ≤ x)
          · go_wp2_with fail
            go_quiet (fail)
            go_wp2_with fail
            clear lB4_0 lB4_1 lB5_0 lB5_1 lB5_2 lB5_3 lB5_4 lB6_0 lB6_1 lB6_2 lB6_3 lB6_4 lB8_0 lB8_1 lB8_2 lB8_3 lB8_4 lB9_0 lB9_1 lB9_2 lB9_3 lB9_4
            clear Rt
            have hq : Below w26.heap.size w26 (w26.drewN nq) := Joins.below_draws _ _ _
            have hsd : (w26.drewN nq).heap.size = w26.heap.size := rfl
            replace bB4 := bB4.below hq (by omega)
            replace bB5 := bB5.below hq (by omega)
            replace bB6 := bB6.below hq (by omega)
            replace bB8 := bB8.below hq (by omega)
            replace bB9 := bB9.below hq (by omega)
            replace HB := hide (HB.out.trans (hq.mono (by omega)))
            clear hq
            generalize (w26.drewN nq) = wz at *
            refine (implVC_as p0 p1 p2 p3 p4 _ E1).mono ?_
            rintro e w27 ⟨rfl, hq⟩
            have hs_w27 : wz.heap.size ≤ w27.heap.size := hq.size
            replace bB4 := bB4.below hq (by omega)
            replace bB5 := bB5.below hq (by omega)
            replace bB6 := bB6.below hq (by omega)
            replace bB8 := bB8.below hq (by omega)
            replace bB9 := bB9.below hq (by omega)
            replace HB := hide (HB.out.trans (hq.mono (by omega)))
            clear hq
            have lB9_0 := bB9 0 _ rfl
            have lB9_1 := bB9 1 _ rfl
            have lB9_2 := bB9 2 _ rfl
            have lB9_3 := bB9 3 _ rfl
            have lB9_4 := bB9 4 _ rfl
            go_wp2_with fail
            clear lB9_0 lB9_1 lB9_2 lB9_3 lB9_4
            refine (implVC_as q0 q1 q2 q3 q4 _ E2).mono ?_
            rintro e w28 ⟨rfl, hq⟩
            have hs_w28 : w27.heap.size ≤ w28.heap.size := hq.size
            replace bB4 := bB4.below hq (by omega)
            replace bB5 := bB5.below hq (by omega)
            replace bB6 := bB6.below hq (by omega)
            replace bB8 := bB8.below hq (by omega)
            replace bB9 := bB9.below hq (by omega)
            replace HB := hide (HB.out.trans (hq.mono (by omega)))
            clear hq
            go_wp2_with fail
            go_ret
            exact ⟨rfl, HB.out⟩
          · go_wp2_with fail
            go_quiet (fail)
            go_wp2_with fail
            clear lB4_0 lB4_1 lB5_0 lB5_1 lB5_2 lB5_3 lB5_4 lB6_0 lB6_1 lB6_2 lB6_3 lB6_4 lB8_0 lB8_1 lB8_2 lB8_3 lB8_4 lB9_0 lB9_1 lB9_2 lB9_3 lB9_4
            clear Rt
            have hq : Below w26.heap.size w26 (w26.drewN nq) := Joins.below_draws _ _ _
            have hsd : (w26.drewN nq).heap.size = w26.heap.size := rfl
            replace bB4 := bB4.below hq (by omega)
            replace bB5 := bB5.below hq (by omega)
            replace bB6 := bB6.below hq (by omega)
            replace bB8 := bB8.below hq (by omega)
            replace bB9 := bB9.below hq (by omega)
            replace HB := hide (HB.out.trans (hq.mono (by omega)))
            clear hq
            generalize (w26.drewN nq) = wz at *
            refine (implVC_as p0 p1 p2 p3 p4 _ E1).mono ?_
            rintro e w27 ⟨rfl, hq⟩
            have hs_w27 : wz.heap.size ≤ w27.heap.size := hq.size
            replace bB4 := bB4.below hq (by omega)
            replace bB5 := bB5.below hq (by omega)
            replace bB6 := bB6.below hq (by omega)
            replace bB8 := bB8.below hq (by omega)
            replace bB9 := bB9.below hq (by omega)
            replace HB := hide (HB.out.trans (hq.mono (by omega)))
            clear hq
            have lB9_0 := bB9 0 _ rfl
            have lB9_1 := bB9 1 _ rfl
            have lB9_2 := bB9 2 _ rfl
            have lB9_3 := bB9 3 _ rfl
            have lB9_4 := bB9 4 _ rfl
            go_wp2_with fail
            clear lB9_0 lB9_1 lB9_2 lB9_3 lB9_4
            refine (implVC_as q0 q1 q2 q3 q4 _ E2).mono ?_
            rintro e w28 ⟨rfl, hq⟩
            have hs_w28 : w27.heap.size ≤ w28.heap.size := hq.size
            replace bB4 := bB4.below hq (by omega)
            replace bB5 := bB5.below hq (by omega)
            replace bB6 := bB6.below hq (by omega)
            replace bB8 := bB8.below hq (by omega)
            replace bB9 := bB9.below hq (by omega)
            replace HB := hide (HB.out.trans (hq.mono (by omega)))
            clear hq
            go_wp2_with fail
            go_ret
            exact ⟨rfl, HB.out⟩
        · cases e3 : (a3 == 0)
          · cases em : decide (1 ≤ x)
            · go_wp2_with fail
              go_quiet (fail)
              go_wp2_with fail
              clear lB4_0 lB4_1 lB5_0 lB5_1 lB5_2 lB5_3 lB5_4 lB6_0 lB6_1 lB6_2 lB6_3 lB6_4 lB8_0 lB8_1 lB8_2 lB8_3 lB8_4 lB9_0 lB9_1 lB9_2 lB9_3 lB9_4
              clear Rt
              have hq : Below w26.heap.size w26 (w26.drewN nq) := Joins.below_draws _ _ _
              have hsd : (w26.drewN nq).heap.size = w26.heap.size := rfl
              replace bB4 := bB4.below hq (by omega)
              replace bB5 := bB5.below hq (by omega)
              replace bB6 := bB6.below hq (by omega)
              replace bB8 := bB8.below hq (by omega)
              replace bB9 := bB9.below hq (by omega)
              replace HB := hide (HB.out.trans (hq.mono (by omega)))
              clear hq
              generalize (w26.drewN nq) = wz at *
              refine (implVC_as p0 p1 p2 p3 p4 _ E1).mono ?_
              rintro e w27 ⟨rfl, hq⟩
              have hs_w27 : wz.heap.size ≤ w27.heap.size := hq.size
              replace bB4 := bB4.below hq (by omega)
              replace bB5 := bB5.below hq (by omega)
              replace bB6 := bB6.below hq (by omega)
              replace bB8 := bB8.below hq (by omega)
              replace bB9 := bB9.below hq (by omega)
              replace HB := hide (HB.out.trans (hq.mono (by omega)))
              clear hq
              have lB9_0 := bB9 0 _ rfl
              have lB9_1 := bB9 1 _ rfl
              have lB9_2 := bB9 2 _ rfl
              have lB9_3 := bB9 3 _ rfl
              have lB9_4 := bB9 4 _ rfl
              go_wp2_with fail
              clear lB9_0 lB9_1 lB9_2 lB9_3 lB9_4
              refine (implVC_as q0 q1 q2 q3 q4 _ E2).mono ?_
              rintro e w28 ⟨rfl, hq⟩
              have hs_w28 : w27.heap.size ≤ w28.heap.size := hq.size
              replace bB4 := bB4.below hq (by omega)
              replace bB5 := bB5.below hq (by omega)
              replace bB6 := bB6.below hq (by omega)
              replace bB8 := bB8.below hq (by omega)
              replace bB9 := bB9.below hq (by omega)
              replace HB := hide (HB.out.trans (hq.mono (by omega)))
              clear hq
              go_wp2_with fail
              go_ret
              exact ⟨rfl, HB.out⟩
            · go_wp2_with fail
              go_quiet (fail)
              go_wp2_with fail
              clear lB4_0 lB4_1 lB5_0 lB5_1 lB5_2 lB5_3 lB5_4 lB6_0 lB6_1 lB6_2 lB6_3 lB6_4 lB8_0 lB8_1 lB8_2 lB8_3 lB8_4 lB9_0 lB9_1 lB9_2 lB9_3 lB9_4
              clear Rt
              have hq : Below w26.heap.size w26 (w26.drewN nq) := Joins.below_draws _ _ _
              have hsd : (w26.drewN nq).heap.size = w26.heap.size := rfl
              replace bB4 := bB4.below hq (by omega)
              replace bB5 := bB5.below hq (by omega)
              replace bB6 := bB6.below hq (by omega)
              replace bB8 := bB8.below hq (by omega)
              replace bB9 := bB9.below hq (by omega)
              replace HB := hide (HB.out.trans (hq.mono (by omega)))
              clear hq
              generalize (w26.drewN nq) = wz at *
              refine (implVC_as p0 p1 p2 p3 p4 _ E1).mono ?_
              rintro e w27 ⟨rfl, hq⟩
              have hs_w27 : wz.heap.size ≤ w27.heap.size := hq.size
              replace bB4 := bB4.below hq (by omega)
              replace bB5 := bB5.below hq (by omega)
              replace bB6 := bB6.below hq (by omega)
              replace bB8 := bB8.below hq (by omega)
              replace bB9 := bB9.below hq (by omega)
              replace HB := hide (HB.out.trans (hq.mono (by omega)))
              clear hq
              have lB9_0 := bB9 0 _ rfl
              have lB9_1 := bB9 1 _ rfl
              have lB9_2 := bB9 2 _ rfl
              have lB9_3 := bB9 3 _ rfl
              have lB9_4 := bB9 4 _ rfl
              go_wp2_with fail
              clear lB9_0 lB9_1 lB9_2 lB9_3 lB9_4
              refine (implVC_as q0 q1 q2 q3 q4 _ E2).mono ?_
              rintro e w28 ⟨rfl, hq⟩
              have hs_w28 : w27.heap.size ≤ w28.heap.size := hq.size
              replace bB4 := bB4.below hq (by omega)
              replace bB5 := bB5.below hq (by omega)
              replace bB6 := bB6.below hq (by omega)
              replace bB8 := bB8.below hq (by omega)
              replace bB9 := bB9.below hq (by omega)
              replace HB := hide (HB.out.trans (hq.mono (by omega)))
              clear hq
              go_wp2_with fail
              go_ret
              exact ⟨rfl, HB.out⟩
          · cases e4 : (d3 == 0)
            · cases em : decide (1 ≤ x)
              · go_wp2_with fail
                go_quiet (fail)
                go_wp2_with fail
                clear lB4_0 lB4_1 lB5_0 lB5_1 lB5_2 lB5_3 lB5_4 lB6_0 lB6_1 lB6_2 lB6_3 lB6_4 lB8_0 lB8_1 lB8_2 lB8_3 lB8_4 lB9_0 lB9_1 lB9_2 lB9_3 lB9_4
                clear Rt
                have hq : Below w26.heap.size w26 (w26.drewN nq) := Joins.below_draws _ _ _
                have hsd : (w26.drewN nq).heap.size = w26.heap.size := rfl
                replace bB4 := bB4.below hq (by omega)
                replace bB5 := bB5.below hq (by omega)
                replace bB6 := bB6.below hq (by omega)
                replace bB8 := bB8.below hq (by omega)
                replace bB9 := bB9.below hq (by omega)
                replace HB := hide (HB.out.trans (hq.mono (by omega)))
                clear hq
                generalize (w26.drewN nq) = wz at *
                refine (implVC_as p0 p1 p2 p3 p4 _ E1).mono ?_
                rintro e w27 ⟨rfl, hq⟩
                have hs_w27 : wz.heap.size ≤ w27.heap.size := hq.size
                replace bB4 := bB4.below hq (by omega)
                replace bB5 := bB5.below hq (by omega)
                replace bB6 := bB6.below hq (by omega)
                replace bB8 := bB8.below hq (by omega)
                replace bB9 := bB9.below hq (by omega)
                replace HB := hide (HB.out.trans (hq.mono (by omega)))
                clear hq
                have lB9_0 := bB9 0 _ rfl
                have lB9_1 := bB9 1 _ rfl
                have lB9_2 := bB9 2 _ rfl
                have lB9_3 := bB9 3 _ rfl
                have lB9_4 := bB9 4 _ rfl
                go_wp2_with fail
                clear lB9_0 lB9_1 lB9_2 lB9_3 lB9_4
                refine (implVC_as q0 q1 q2 q3 q4 _ E2).mono ?_
                rintro e w28 ⟨rfl, hq⟩
                have hs_w28 : w27.heap.size ≤ w28.heap.size := hq.size
                replace bB4 := bB4.below hq (by omega)
                replace bB5 := bB5.below hq (by omega)
                replace bB6 := bB6.below hq (by omega)
                replace bB8 := bB8.below hq (by omega)
                replace bB9 := bB9.below hq (by omega)
                replace HB := hide (HB.out.trans (hq.mono (by omega)))
                clear hq
                go_wp2_with fail
                go_ret
                exact ⟨rfl, HB.out⟩
              · go_wp2_with fail
                go_quiet (fail)
                go_wp2_with fail
                clear lB4_0 lB4_1 lB5_0 lB5_1 lB5_2 lB5_3 lB5_4 lB6_0 lB6_1 lB6_2 lB6_3 lB6_4 lB8_0 lB8_1 lB8_2 lB8_3 lB8_4 lB9_0 lB9_1 lB9_2 lB9_3 lB9_4
                clear Rt
                have hq : Below w26.heap.size w26 (w26.drewN nq) := Joins.below_draws _ _ _
                have hsd : (w26.drewN nq).heap.size = w26.heap.size := rfl
                replace bB4 := bB4.below hq (by omega)
                replace bB5 := bB5.below hq (by omega)
                replace bB6 := bB6.below hq (by omega)
                replace bB8 := bB8.below hq (by omega)
                replace bB9 := bB9.below hq (by omega)
                replace HB := hide (HB.out.trans (hq.mono (by omega)))
                clear hq
                generalize (w26.drewN nq) = wz at *
                refine (implVC_as p0 p1 p2 p3 p4 _ E1).mono ?_
                rintro e w27 ⟨rfl, hq⟩
                have hs_w27 : wz.heap.size ≤ w27.heap.size := hq.size
                replace bB4 := bB4.below hq (by omega)
                replace bB5 := bB5.below hq (by omega)
                replace bB6 := bB6.below hq (by omega)
                replace bB8 := bB8.below hq (by omega)
                replace bB9 := bB9.below hq (by omega)
                replace HB := hide (HB.out.trans (hq.mono (by omega)))
                clear hq
                have lB9_0 := bB9 0 _ rfl
                have lB9_1 := bB9 1 _ rfl
                have lB9_2 := bB9 2 _ rfl
                have lB9_3 := bB9 3 _ rfl
                have lB9_4 := bB9 4 _ rfl
                go_wp2_with fail
                clear lB9_0 lB9_1 lB9_2 lB9_3 lB9_4
                refine (implVC_as q0 q1 q2 q3 q4 _ E2).mono ?_
                rintro e w28 ⟨rfl, hq⟩
                have hs_w28 : w27.heap.size ≤ w28.heap.size := hq.size
                replace bB4 := bB4.below hq (by omega)
                replace bB5 := bB5.below hq (by omega)
                replace bB6 := bB6.below hq (by omega)
                replace bB8 := bB8.below hq (by omega)
                replace bB9 := bB9.below hq (by omega)
                replace HB := hide (HB.out.trans (hq.mono (by omega)))
                clear hq
                go_wp2_with fail
                go_ret
                exact ⟨rfl, HB.out⟩
            · cases em : decide (1 ≤ x)
              · go_wp2_with fail
                go_quiet (fail)
                go_wp2_with fail
                clear lB4_0 lB4_1 lB5_0 lB5_1 lB5_2 lB5_3 lB5_4 lB6_0 lB6_1 lB6_2 lB6_3 lB6_4 lB8_0 lB8_1 lB8_2 lB8_3 lB8_4 lB9_0 lB9_1 lB9_2 lB9_3 lB9_4
                clear Rt
                have hq : Below w26.heap.size w26 (w26.drewN nq) := Joins.below_draws _ _ _
                have hsd : (w26.drewN nq).heap.size = w26.heap.size := rfl
                replace bB4 := bB4.below hq (by omega)
                replace bB5 := bB5.below hq (by omega)
                replace bB6 := bB6.below hq (by omega)
                replace bB8 := bB8.below hq (by omega)
                replace bB9 := bB9.below hq (by omega)
                replace HB := hide (HB.out.trans (hq.mono (by omega)))
                clear hq
                generalize (w26.drewN nq) = wz at *
                refine (implVC_as p0 p1 p2 p3 p4 _ E1).mono ?_
                rintro e w27 ⟨rfl, hq⟩
                have hs_w27 : wz.heap.size ≤ w27.heap.size := hq.size
                replace bB4 := bB4.below hq (by omega)
                replace bB5 := bB5.below hq (by omega)
                replace bB6 := bB6.below hq (by omega)
                replace bB8 := bB8.below hq (by omega)
                replace bB9 := bB9.below hq (by omega)
                replace HB := hide (HB.out.trans (hq.mono (by omega)))
                clear hq
                have lB9_0 := bB9 0 _ rfl
                have lB9_1 := bB9 1 _ rfl
                have lB9_2 := bB9 2 _ rfl
                have lB9_3 := bB9 3 _ rfl
                have lB9_4 := bB9 4 _ rfl
                go_wp2_with fail
                clear lB9_0 lB9_1 lB9_2 lB9_3 lB9_4
                refine (implVC_as q0 q1 q2 q3 q4 _ E2).mono ?_
                rintro e w28 ⟨rfl, hq⟩
                have hs_w28 : w27.heap.size ≤ w28.heap.size := hq.size
                replace bB4 := bB4.below hq (by omega)
                replace bB5 := bB5.below hq (by omega)
                replace bB6 := bB6.below hq (by omega)
                replace bB8 := bB8.below hq (by omega)
                replace bB9 := bB9.below hq (by omega)
                replace HB := hide (HB.out.trans (hq.mono (by omega)))
                clear hq
                go_wp2_with fail
                go_ret
                exact ⟨rfl, HB.out⟩
              · obtain rfl := tab_n Rt.out OKT.out
                obtain ⟨b0, o0, bx, ox, cx, rfl, hbx0, hbx1, hcx, hrx⟩ := tab_row Rt.out OKT.out ka (by omega)
                have d1 := hrx kd (by omega)
                clear hrx
                cases hf : tg Tt ka kd
                · have hbd : bd = -1 := E4.out (by simpa using em) (by simpa using e1) (by simpa using e2) (by simpa using e3) (by simpa using e4) hf
                  subst hbd
                  rw [hf] at d1
                  clear hf
                  clear Rt
                  go_wp2_with fail
                  go_quiet (fail)
                  go_wp2_with fail
                  clear lB4_0 lB4_1 lB5_0 lB5_1 lB5_2 lB5_3 lB5_4 lB6_0 lB6_1 lB6_2 lB6_3 lB6_4 lB8_0 lB8_1 lB8_2 lB8_3 lB8_4 lB9_0 lB9_1 lB9_2 lB9_3 lB9_4
                  have hq : Below w26.heap.size w26 (w26.drewN nq) := Joins.below_draws _ _ _
                  have hsd : (w26.drewN nq).heap.size = w26.heap.size := rfl
                  replace bB4 := bB4.below hq (by omega)
                  replace bB5 := bB5.below hq (by omega)
                  replace bB6 := bB6.below hq (by omega)
                  replace bB8 := bB8.below hq (by omega)
                  replace bB9 := bB9.below hq (by omega)
                  replace HB := hide (HB.out.trans (hq.mono (by omega)))
                  clear hq
                  generalize (w26.drewN nq) = wz at *
                  refine (implVC_as p0 p1 p2 p3 p4 _ E1).mono ?_
                  rintro e w27 ⟨rfl, hq⟩
                  have hs_w27 : wz.heap.size ≤ w27.heap.size := hq.size
                  replace bB4 := bB4.below hq (by omega)
                  replace bB5 := bB5.below hq (by omega)
                  replace bB6 := bB6.below hq (by omega)
                  replace bB8 := bB8.below hq (by omega)
                  replace bB9 := bB9.below hq (by omega)
                  replace HB := hide (HB.out.trans (hq.mono (by omega)))
                  clear hq
                  have lB9_0 := bB9 0 _ rfl
                  have lB9_1 := bB9 1 _ rfl
                  have lB9_2 := bB9 2 _ rfl
                  have lB9_3 := bB9 3 _ rfl
                  have lB9_4 := bB9 4 _ rfl
                  go_wp2_with fail
                  clear lB9_0 lB9_1 lB9_2 lB9_3 lB9_4
                  refine (implVC_as q0 q1 q2 q3 q4 _ E2).mono ?_
                  rintro e w28 ⟨rfl, hq⟩
                  have hs_w28 : w27.heap.size ≤ w28.heap.size := hq.size
                  replace bB4 := bB4.below hq (by omega)
                  replace bB5 := bB5.below hq (by omega)
                  replace bB6 := bB6.below hq (by omega)
                  replace bB8 := bB8.below hq (by omega)
                  replace bB9 := bB9.below hq (by omega)
                  replace HB := hide (HB.out.trans (hq.mono (by omega)))
                  clear hq
                  go_wp2_with fail
                  go_ret
                  exact ⟨rfl, HB.out⟩
                · rw [hf] at d1
                  clear hf
                  clear Rt
                  go_wp2_with fail
                  go_quiet (fail)
                  go_wp2_with fail
                  clear lB4_0 lB4_1 lB5_0 lB5_1 lB5_2 lB5_3 lB5_4 lB6_0 lB6_1 lB6_2 lB6_3 lB6_4 lB8_0 lB8_1 lB8_2 lB8_3 lB8_4 lB9_0 lB9_1 lB9_2 lB9_3 lB9_4
                  have hq : Below w26.heap.size w26 (w26.drewN nq) := Joins.below_draws _ _ _
                  have hsd : (w26.drewN nq).heap.size = w26.heap.size := rfl
                  replace bB4 := bB4.below hq (by omega)
                  replace bB5 := bB5.below hq (by omega)
                  replace bB6 := bB6.below hq (by omega)
                  replace bB8 := bB8.below hq (by omega)
                  replace bB9 := bB9.below hq (by omega)
                  replace HB := hide (HB.out.trans (hq.mono (by omega)))
                  clear hq
                  generalize (w26.drewN nq) = wz at *
                  refine (implVC_as p0 p1 p2 p3 p4 _ E1).mono ?_
                  rintro e w27 ⟨rfl, hq⟩
                  have hs_w27 : wz.heap.size ≤ w27.heap.size := hq.size
                  replace bB4 := bB4.below hq (by omega)
                  replace bB5 := bB5.below hq (by omega)
                  replace bB6 := bB6.below hq (by omega)
                  replace bB8 := bB8.below hq (by omega)
                  replace bB9 := bB9.below hq (by omega)
                  replace HB := hide (HB.out.trans (hq.mono (by omega)))
                  clear hq
                  have lB9_0 := bB9 0 _ rfl
                  have lB9_1 := bB9 1 _ rfl
                  have lB9_2 := bB9 2 _ rfl
                  have lB9_3 := bB9 3 _ rfl
                  have lB9_4 := bB9 4 _ rfl
                  go_wp2_with fail
                  clear lB9_0 lB9_1 lB9_2 lB9_3 lB9_4
                  refine (implVC_as q0 q1 q2 q3 q4 _ E2).mono ?_
                  rintro e w28 ⟨rfl, hq⟩
                  have hs_w28 : w27.heap.size ≤ w28.heap.size := hq.size
                  replace bB4 := bB4.below hq (by omega)
                  replace bB5 := bB5.below hq (by omega)
                  replace bB6 := bB6.below hq (by omega)
                  replace bB8 := bB8.below hq (by omega)
                  replace bB9 := bB9.below hq (by omega)
                  replace HB := hide (HB.out.trans (hq.mono (by omega)))
                  clear hq
                  go_wp2_with fail
                  go_ret
                  exact ⟨rfl, HB.out⟩
    · go_wp2_with fail
      go_ret
      exact ⟨rfl, HB.out⟩
  · have HR0 := hide hr0
    clear hr0 hw0 hl0
    go_enter Tryz.func3, Tryz.ntmps3
    go_wp2_with fail
    refine (c6yes A0 n0 c0 (by omega) _).mono ?_
    rintro e w' ⟨rfl, rfl⟩
    go_wp2_with fail
    go_ret
    exact ⟨rfl, Below.refl _ _⟩

theorem door_met (os : Os) (args : Array Value) : laidMetH Tryz.prog Rows.fnControllersRow.laid ((World.doorLaid Tryz.prog 4000 os).forCall (fun _ _ => 0) ⟨#[], args, []⟩).memory := by
  rw [MakeChecks.laidMetH_plain _ _ _ (by kernel_rfl)]
  exact laidMet_of_run' 8 (by kernel_rfl) (by kernel_rfl)
theorem tb_of {W : World} (h : laidMetH Tryz.prog Rows.fnControllersRow.laid W) : Tb W := by
  rw [MakeChecks.laidMetH_plain _ _ _ (by kernel_rfl)] at h
  exact Lib.tabIs_of_head (g := 0) (t := 119) (e := 70) (n := 20) (by kernel_rfl) (by kernel_rfl) (by kernel_rfl) (by kernel_rfl) (by kernel_rfl) (by kernel_rfl) (show laidMet Tryz.prog (_ :: _) W from h.tail.tail)
set_option maxRecDepth 100000 in
theorem lifted (os : Os) (started : os.Started) (H : Type) (enc : TypeId × Value → H) :
    ReturnsInHanded {} Tryz.checked os 3 .any (fun w args => (Rows.fnControllersSpec.pre enc Tryz.prog Tryz.f3 Rows.fnControllersRow.domain false w args ∧ laidMetH Tryz.prog Rows.fnControllersRow.laid w) ∧ sizedMet enc Tryz.prog Tryz.f3 (OpenSpec.ofChange Rows.fnControllersSpec) false w args)
      (Rows.fnControllersSpec.post enc Tryz.prog Tryz.f3 false true false false) := by
  refine returnsInHanded_of_change_and (C := Tryz.checked) (X := fun w _ => laidMetH Tryz.prog Rows.fnControllersRow.laid w) (fun _ _ _ hh h => h.of_heap hh) own started (by kernel_rfl) Tryz.func3
    (ChangeSpec.witness_shaped (enc := enc) (C := Tryz.checked) (os := os) (X := fun w _ => laidMetH Tryz.prog Rows.fnControllersRow.laid w) false (World.doorLaid Tryz.prog 4000 os) #[.slice none 0 0] 8 rfl (World.shaped_of_RefB (by kernel_rfl) (by kernel_rfl)) (by kernel_rfl) (by kernel_rfl) (by kernel_rfl) (door_met os _)) ?_
  intro W base args ds gs before hval0 hW _ _ hL _
  have hval : ∀ (j : Nat) t v, Tryz.f3.params[j]? = some t → args[j]? = some v → Value.okWide Tryz.prog W .any base t v := hval0
  have hW' := hW
  obtain ⟨p, q, hA0, hV, rfl, hfz, hnd⟩ := hW
  have hA : DataW.TrodAll enc Tryz.prog W 0 (fun _ => true) true Tryz.f3.params.toList args.toList ds p := hA0
  rw [Tryz.params3] at hA hval
  obtain ⟨v0, vs0, d0, ds0, p0, q0, hargs, rfl, rfl, h0, r0⟩ := trodAll_cons hA
  obtain ⟨rfl, rfl, rfl⟩ := trodAll_nil r0
  obtain rfl : args = #[v0] := by cases args; simp_all
  obtain ⟨rfl, rfl⟩ := trodVars_none hV
  obtain ⟨A0, n0, c0, l0, rfl, hnc0, hcm0, hl0, hr0, hw0⟩ := open_ByteS (hval 0 22 v0 rfl rfl) h0
  clear hA0 hval0
  refine (walk W A0 n0 c0 l0 hl0 (Nat.le_trans hnc0 hcm0) hr0 hw0 (tb_of hL)).mono fun e W' ⟨he, hB⟩ => ?_
  subst he
  exact ⟨_, rfl, law_post laidOut Tryz.underlying4 rfl (by kernel_rfl) (by kernel_rfl) hW' rfl rfl rfl hB⟩

theorem proved : Rows.FnControllersSaid :=
  OpenClaim.holds_of_wide 3 Tryz.f3 rfl rfl rfl rfl rfl rfl rfl ⟨rfl, rfl, rfl, rfl, rfl⟩ rfl rfl rfl rfl rfl (by kernel_rfl) Tryz.func3 (joined rfl rfl rfl (by kernel_rfl))
    (of_decide_eq_true (by kernel_rfl)) (by unfold Func.isWrapper; first | (rw [if_pos (by decide +kernel)]; kernel_rfl) | (rw [if_neg (by decide +kernel)]; exact ⟨rfl, rfl⟩))
    (fun os started H enc _ => lifted os started H enc)
theorem carded : Rows.FnControllersCardSaid :=
  Claim7.holds_tied_plain_at .later [] [.data, .data, .data] true (true, "f1b8e2b303d7aab7d8367219e36eb64241d6533e4bfd04a4c0dbb443206be720") false
    proved (fun _ h => by cases h) (by kernel_rfl) (fun _ h => by cases h) fnControllers_row_tie rfl ⟨rfl, rfl⟩ (by kernel_rfl) rfl
    (fun f fn hf hfn => by
      obtain rfl : f = 3 := Option.some.inj ((show Tryz.prog.funcNamed "loop.example/g00932/laws.FnControllers" = some 3 by kernel_rfl).symm.trans hf) |>.symm
      obtain rfl : fn = Tryz.f3 := (Option.some.inj (Tryz.func3.symm.trans hfn)).symm
      exact ⟨by kernel_rfl, fun j t ht => by
        rw [Tryz.params3] at ht
        have hm : t ∈ [22] := by simpa using Array.mem_of_getElem? ht
        have hall : ([22].all fun u => !Tryz.prog.wantsStandIn u) = true := by kernel_rfl
        exact (show Tryz.prog.wantsStandIn t = false by simpa using List.all_eq_true.1 hall t hm)⟩)
    (by kernel_rfl)
#print axioms carded
end fnControllers
end Go.Proofs.YtnbahmjimnhfbaaGreatDoor
