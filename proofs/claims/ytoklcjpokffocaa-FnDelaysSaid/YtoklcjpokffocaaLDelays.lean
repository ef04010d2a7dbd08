/-
  FnDelays: the law answers true at every input, and the input reads behind the call as it read before. No condition.
-/
import Derived.Test.YtoklcjpokffocaaFrame
import Derived.Test.YtoklcjpokffocaaFacts
import Derived.WalkKit
import Derived.WalkSpells
import Derived.WalkLawsBesides
import Derived.Deep.RegionWith
import Derived.Deep.DeepCutAuto
import Derived.Test.YtoklcjpokffocaaOpnByte
import Derived.Test.YtoklcjpokffocaaDelL
import Derived.Test.YtoklcjpokffocaaRtD
namespace Go.Proofs.Ytoklcjpokffocaa
open Go.ChangeShapes Go.WideShapes Go.ChangeAt Go.RowKit
namespace fnDelays
set_option linter.unusedVariables false
set_option linter.unusedSimpArgs false
set_option maxRecDepth 100000 in
set_option maxHeartbeats 20000000 in
theorem walk (w : World) (A0 : Option Addr) (n0 c0 : Nat) (l0 : List (Int)) (hl0 : l0.length = n0) (hm0 : n0 ≤ maxLen) (hr0 : Rd w 0 w.heap.size 1 A0 n0 (rByte l0)) (hw0 : ∀ p ∈ l0, (Lit.int .u8 p).wf = true) :
    Calls Try.prog 3 #[.slice A0 n0 c0] w fun e w' => e = .returned (.bool true) ∧ Below w.heap.size w w' := by
  by_cases hn0 : n0 ≤ 4096
  · have hv0 := rByte_u8 hw0
    have HV0 := hide hv0
    have HR0 := hide hr0
    have HB := hide (Below.refl w.heap.size w)
    clear hw0 hv0 hl0 hr0
    go_enter Try.func3, Try.ntmps3
    go_wp2_with fail
    refine (d6no A0 n0 c0 hn0 _).mono ?_
    rintro e w' ⟨rfl, rfl⟩
    go_wp2_with fail
    refine (DrawLeastDelay_g A0 n0 c0 w.heap.size _ hm0 _ HR0.out (by omega) HV0.out).mono ?_
    rintro e w1 ⟨v, sa, la, na, Aa, ca, sb, lb, nb, Ab, cb, rfl, hla, hna, hMa, hlb, hnb, hMb, hv, hq⟩
    have hs_w1 : w.heap.size ≤ w1.heap.size := hq.size
    replace HR0 := hide (HR0.out.below hq (by omega))
    replace HB := hide (HB.out.trans (hq.mono (by omega)))
    clear hq
    have Ma := hide hMa
    have HLa := hide hla
    clear hMa hla
    have Mb := hide hMb
    have HLb := hide hlb
    clear hMb hlb
    obtain ⟨At, nt, ct, Tt, rfl, hmt, hrt⟩ := hv
    have Rt := hide hrt
    clear hrt
    go_wp2_with fail
    obtain ⟨w2, hW⟩ : ∃ W : World, W = ((w1.alloc (.cells #[.int .i64 sa, .slice Aa na ca] 27)).alloc (.cells #[.int .i64 sb, .slice Ab nb cb] 27)) := ⟨_, rfl⟩
    rw [← hW]
    have hs_w2 : w2.heap.size = w1.heap.size + 2 := by rw [hW]; simp
    have hq : Below w1.heap.size w1 w2 := by rw [hW]; exact (((Below.refl _ _).alloc (by first | omega | (simp <;> omega) | simp) _).alloc (by first | omega | (simp <;> omega) | simp) _)
    replace HR0 := hide (HR0.out.below hq (by omega))
    replace Ma := hide (Ma.out.below hq (by omega))
    replace Mb := hide (Mb.out.below hq (by omega))
    replace Rt := hide (Rt.out.below hq (by omega))
    replace HB := hide (HB.out.trans (hq.mono (by omega)))
    clear hq
    have bB4 : Box w2 w1.heap.size [.int .i64 sa, .slice Aa na ca] := by rw [hW]; exact ((box_at _ _ _ _ (by simp)).alloc (by first | omega | (simp <;> omega) | simp) _)
    have bB5 : Box w2 (w1.heap.size + 1) [.int .i64 sb, .slice Ab nb cb] := by rw [hW]; exact (box_at _ _ _ _ (by simp))
    clear hW
    obtain ⟨⟨nn, cn⟩, hHLD⟩ : ∃ z, ldP Tt sa la sb lb = z := ⟨_, rfl⟩
    have HLD := hide hHLD
    clear hHLD
    refine (implLeastDelay_any At nt ct _ _ Tt hmt Aa Ab na ca _ _ nb cb _ _ sa sb la lb _ Rt.out (by omega) Ma.out HLa.out (by omega) (by omega) Mb.out HLb.out (by omega) (by omega)).mono ?_
    rintro e w3 ⟨rfl, hq⟩
    have hs_w3 : w2.heap.size ≤ w3.heap.size := hq.size
    replace bB4 := bB4.below hq (by omega)
    replace bB5 := bB5.below hq (by omega)
    replace HR0 := hide (HR0.out.below hq (by omega))
    replace Ma := hide (Ma.out.below hq (by omega))
    replace Mb := hide (Mb.out.below hq (by omega))
    replace Rt := hide (Rt.out.below hq (by omega))
    replace HB := hide (HB.out.trans (hq.mono (by omega)))
    clear hq
    rw [HLD.out]
    have lB4_0 := bB4 0 _ rfl
    have lB4_1 := bB4 1 _ rfl
    have lB5_0 := bB5 0 _ rfl
    have lB5_1 := bB5 1 _ rfl
    go_wp2_with fail
    clear lB4_0 lB4_1 lB5_0 lB5_1
    refine (specLeastDelay_any At nt ct _ _ Tt hmt Aa Ab na ca _ _ nb cb _ _ sa sb la lb _ Rt.out (by omega) Ma.out HLa.out (by omega) (by omega) Mb.out HLb.out (by omega) (by omega)).mono ?_
    rintro e w4 ⟨rfl, hq⟩
    have hs_w4 : w3.heap.size ≤ w4.heap.size := hq.size
    replace bB4 := bB4.below hq (by omega)
    replace bB5 := bB5.below hq (by omega)
    replace HR0 := hide (HR0.out.below hq (by omega))
    replace Ma := hide (Ma.out.below hq (by omega))
    replace Mb := hide (Mb.out.below hq (by omega))
    replace Rt := hide (Rt.out.below hq (by omega))
    replace HB := hide (HB.out.trans (hq.mono (by omega)))
    clear hq
    rw [HLD.out]
    go_wp2_with fail
    refine (DrawFirstConflict_g A0 n0 c0 w.heap.size _ hm0 _ HR0.out (by omega) HV0.out).mono ?_
    rintro e w5 ⟨v, sd, ld, nd, Ad, cd, se, le, ne, Ae, ce, rfl, hld, hnd, hMd, hle, hne, hMe, hv, hq⟩
    have hs_w5 : w4.heap.size ≤ w5.heap.size := hq.size
    replace bB4 := bB4.below hq (by omega)
    replace bB5 := bB5.below hq (by omega)
    replace HR0 := hide (HR0.out.below hq (by omega))
    replace Ma := hide (Ma.out.below hq (by omega))
    replace Mb := hide (Mb.out.below hq (by omega))
    replace Rt := hide (Rt.out.below hq (by omega))
    replace HB := hide (HB.out.trans (hq.mono (by omega)))
    clear hq
    have Md := hide hMd
    have HLd := hide hld
    clear hMd hld
    have Me := hide hMe
    have HLe := hide hle
    clear hMe hle
    obtain ⟨Au, nu, cu, Tu, rfl, hmu, hru⟩ := hv
    have Ru := hide hru
    clear hru
    go_wp2_with fail
    obtain ⟨w6, hW⟩ : ∃ W : World, W = ((w5.alloc (.cells #[.int .i64 sd, .slice Ad nd cd] 27)).alloc (.cells #[.int .i64 se, .slice Ae ne ce] 27)) := ⟨_, rfl⟩
    rw [← hW]
    have hs_w6 : w6.heap.size = w5.heap.size + 2 := by rw [hW]; simp
    have hq : Below w5.heap.size w5 w6 := by rw [hW]; exact (((Below.refl _ _).alloc (by first | omega | (simp <;> omega) | simp) _).alloc (by first | omega | (simp <;> omega) | simp) _)
    replace bB4 := bB4.below hq (by omega)
    replace bB5 := bB5.below hq (by omega)
    replace HR0 := hide (HR0.out.below hq (by omega))
    replace Ma := hide (Ma.out.below hq (by omega))
    replace Mb := hide (Mb.out.below hq (by omega))
    replace Rt := hide (Rt.out.below hq (by omega))
    replace Md := hide (Md.out.below hq (by omega))
    replace Me := hide (Me.out.below hq (by omega))
    replace Ru := hide (Ru.out.below hq (by omega))
    replace HB := hide (HB.out.trans (hq.mono (by omega)))
    clear hq
    have bB11 : Box w6 w5.heap.size [.int .i64 sd, .slice Ad nd cd] := by rw [hW]; exact ((box_at _ _ _ _ (by simp)).alloc (by first | omega | (simp <;> omega) | simp) _)
    have bB12 : Box w6 (w5.heap.size + 1) [.int .i64 se, .slice Ae ne ce] := by rw [hW]; exact (box_at _ _ _ _ (by simp))
    clear hW
    obtain ⟨fc, hHFC⟩ : ∃ z, fcV Tu sd ld se le = z := ⟨_, rfl⟩
    have HFC := hide hHFC
    clear hHFC
    obtain ⟨fo, hHFO⟩ : ∃ z, coM Tu sd ld se le = z := ⟨_, rfl⟩
    have HFO := hide hHFO
    clear hHFO
    refine (implFirstConflict_any Au nu cu _ _ Tu hmu Ad Ae nd cd _ _ ne ce _ _ sd se ld le _ Ru.out (by omega) Md.out HLd.out (by omega) (by omega) Me.out HLe.out (by omega) (by omega)).mono ?_
    rintro e w7 ⟨rfl, hq⟩
    have hs_w7 : w6.heap.size ≤ w7.heap.size := hq.size
    replace bB4 := bB4.below hq (by omega)
    replace bB5 := bB5.below hq (by omega)
    replace bB11 := bB11.below hq (by omega)
    replace bB12 := bB12.below hq (by omega)
    replace HR0 := hide (HR0.out.below hq (by omega))
    replace Ma := hide (Ma.out.below hq (by omega))
    replace Mb := hide (Mb.out.below hq (by omega))
    replace Rt := hide (Rt.out.below hq (by omega))
    replace Md := hide (Md.out.below hq (by omega))
    replace Me := hide (Me.out.below hq (by omega))
    replace Ru := hide (Ru.out.below hq (by omega))
    replace HB := hide (HB.out.trans (hq.mono (by omega)))
    clear hq
    rw [HFC.out, HFO.out]
    have lB11_0 := bB11 0 _ rfl
    have lB11_1 := bB11 1 _ rfl
    have lB12_0 := bB12 0 _ rfl
    have lB12_1 := bB12 1 _ rfl
    go_wp2_with fail
    clear lB11_0 lB11_1 lB12_0 lB12_1
    refine (specFirstConflict_any Au nu cu _ _ Tu hmu Ad Ae nd cd _ _ ne ce _ _ sd se ld le _ Ru.out (by omega) Md.out HLd.out (by omega) (by omega) Me.out HLe.out (by omega) (by omega)).mono ?_
    rintro e w8 ⟨rfl, hq⟩
    have hs_w8 : w7.heap.size ≤ w8.heap.size := hq.size
    replace bB4 := bB4.below hq (by omega)
    replace bB5 := bB5.below hq (by omega)
    replace bB11 := bB11.below hq (by omega)
    replace bB12 := bB12.below hq (by omega)
    replace HR0 := hide (HR0.out.below hq (by omega))
    replace Ma := hide (Ma.out.below hq (by omega))
    replace Mb := hide (Mb.out.below hq (by omega))
    replace Rt := hide (Rt.out.below hq (by omega))
    replace Md := hide (Md.out.below hq (by omega))
    replace Me := hide (Me.out.below hq (by omega))
    replace Ru := hide (Ru.out.below hq (by omega))
    replace HB := hide (HB.out.trans (hq.mono (by omega)))
    clear hq
    rw [HFC.out, HFO.out]
    go_wp2_with fail
    clear bB11
    clear bB12
    clear Ru
    clear Md
    clear Me
    refine (DrawRouteMotions_g A0 n0 c0 w.heap.size _ hm0 _ HR0.out (by omega) HV0.out).mono ?_
    rintro e w9 ⟨A', n', c', R, rfl, hn', hrl, hq⟩
    have hs_w9 : w8.heap.size ≤ w9.heap.size := hq.size
    replace bB4 := bB4.below hq (by omega)
    replace bB5 := bB5.below hq (by omega)
    replace HR0 := hide (HR0.out.below hq (by omega))
    replace Ma := hide (Ma.out.below hq (by omega))
    replace Mb := hide (Mb.out.below hq (by omega))
    replace Rt := hide (Rt.out.below hq (by omega))
    replace HB := hide (HB.out.trans (hq.mono (by omega)))
    clear hq
    have RR := hide hrl
    clear hrl
    have hRL : R.length = n' := by have := RR.out.length; rw [rrInt64_len] at this; exact this
    have hrml := rmL_len (R := R) (m := 300) (by omega)
    clear hRL
    clear HR0
    go_wp2_with fail
    obtain ⟨x0, hHX0⟩ : ∃ z, rmX R (r0 R 0) = z := ⟨_, rfl⟩
    have HX0 := hide hHX0
    clear hHX0
    obtain ⟨y0, hHY0⟩ : ∃ z, rmX R (r1 R 0) = z := ⟨_, rfl⟩
    have HY0 := hide hHY0
    clear hHY0
    obtain ⟨rc, hHRC⟩ : ∃ z, rmC R = z := ⟨_, rfl⟩
    have HRC := hide hHRC
    clear hHRC
    obtain ⟨hlx0, hly0⟩ := hrml
    obtain ⟨lx, hlx⟩ : ∃ z, rmL R (tA R (R.length - 1)) = z := ⟨_, rfl⟩
    obtain ⟨ly, hly⟩ : ∃ z, rmL R (tB R (R.length - 1)) = z := ⟨_, rfl⟩
    rw [hlx] at hlx0
    rw [hly] at hly0
    have HLX := hide hlx
    have HLY := hide hly
    clear hlx hly
    obtain ⟨nx, hnx⟩ : ∃ z, lx.length = z := ⟨_, rfl⟩
    obtain ⟨ny, hny⟩ : ∃ z, ly.length = z := ⟨_, rfl⟩
    rw [hnx] at hlx0
    rw [hny] at hly0
    have HNX := hide hnx
    have HNY := hide hny
    clear hnx hny
    refine (implRM_as A' n' c' _ _ R (by unfold maxLen; omega) _ RR.out (by omega) HX0.out HY0.out HRC.out HLX.out HLY.out HNX.out HNY.out).mono ?_
    rintro e w10 ⟨Ax, cx, Ay, cy, rfl, hMx, hMy, hq⟩
    have hs_w10 : w9.heap.size ≤ w10.heap.size := hq.size
    replace bB4 := bB4.below hq (by omega)
    replace bB5 := bB5.below hq (by omega)
    replace Ma := hide (Ma.out.below hq (by omega))
    replace Mb := hide (Mb.out.below hq (by omega))
    replace Rt := hide (Rt.out.below hq (by omega))
    replace RR := hide (RR.out.below hq (by omega))
    replace HB := hide (HB.out.trans (hq.mono (by omega)))
    clear hq
    have Mx := hide hMx
    clear hMx
    have My := hide hMy
    clear hMy
    go_wp2_with fail
    obtain ⟨w11, hW⟩ : ∃ W : World, W = ((w10.alloc (.cells #[.int .i64 x0, .slice Ax nx cx] 27)).alloc (.cells #[.int .i64 y0, .slice Ay ny cy] 27)) := ⟨_, rfl⟩
    rw [← hW]
    have hs_w11 : w11.heap.size = w10.heap.size + 2 := by rw [hW]; simp
    have hq : Below w10.heap.size w10 w11 := by rw [hW]; exact (((Below.refl _ _).alloc (by first | omega | (simp <;> omega) | simp) _).alloc (by first | omega | (simp <;> omega) | simp) _)
    replace bB4 := bB4.below hq (by omega)
    replace bB5 := bB5.below hq (by omega)
    replace Ma := hide (Ma.out.below hq (by omega))
    replace Mb := hide (Mb.out.below hq (by omega))
    replace Rt := hide (Rt.out.below hq (by omega))
    replace RR := hide (RR.out.below hq (by omega))
    replace Mx := hide (Mx.out.below hq (by omega))
    replace My := hide (My.out.below hq (by omega))
    replace HB := hide (HB.out.trans (hq.mono (by omega)))
    clear hq
    have bB18 : Box w11 w10.heap.size [.int .i64 x0, .slice Ax nx cx] := by rw [hW]; exact ((box_at _ _ _ _ (by simp)).alloc (by first | omega | (simp <;> omega) | simp) _)
    have bB19 : Box w11 (w10.heap.size + 1) [.int .i64 y0, .slice Ay ny cy] := by rw [hW]; exact (box_at _ _ _ _ (by simp))
    clear hW
    refine (specRM_as A' n' c' _ _ R (by unfold maxLen; omega) _ RR.out (by omega) HX0.out HY0.out HRC.out HLX.out HLY.out HNX.out HNY.out).mono ?_
    rintro e w12 ⟨Au, cu, Av, cv, rfl, hMu, hMv, hq⟩
    have hs_w12 : w11.heap.size ≤ w12.heap.size := hq.size
    replace bB4 := bB4.below hq (by omega)
    replace bB5 := bB5.below hq (by omega)
    replace bB18 := bB18.below hq (by omega)
    replace bB19 := bB19.below hq (by omega)
    replace Ma := hide (Ma.out.below hq (by omega))
    replace Mb := hide (Mb.out.below hq (by omega))
    replace Rt := hide (Rt.out.below hq (by omega))
    replace RR := hide (RR.out.below hq (by omega))
    replace Mx := hide (Mx.out.below hq (by omega))
    replace My := hide (My.out.below hq (by omega))
    replace HB := hide (HB.out.trans (hq.mono (by omega)))
    clear hq
    have Mu := hide hMu
    clear hMu
    have Mv := hide hMv
    clear hMv
    have lB18_0 : ∀ o0 o1 : Obj, ((w12.alloc o0).alloc o1).cell? ⟨w10.heap.size, 0, none⟩ = some (.int .i64 x0) := fun o0 o1 => ((bB18.alloc (by first | omega | (simp; omega)) o0).alloc (by first | omega | (simp; omega)) o1) 0 _ rfl
    have lB18_1 : ∀ o0 o1 : Obj, ((w12.alloc o0).alloc o1).cell? ⟨w10.heap.size, 1, none⟩ = some (.slice Ax nx cx) := fun o0 o1 => ((bB18.alloc (by first | omega | (simp; omega)) o0).alloc (by first | omega | (simp; omega)) o1) 1 _ rfl
    have lB19_0 : ∀ o0 o1 : Obj, ((w12.alloc o0).alloc o1).cell? ⟨(w10.heap.size + 1), 0, none⟩ = some (.int .i64 y0) := fun o0 o1 => ((bB19.alloc (by first | omega | (simp; omega)) o0).alloc (by first | omega | (simp; omega)) o1) 0 _ rfl
    have lB19_1 : ∀ o0 o1 : Obj, ((w12.alloc o0).alloc o1).cell? ⟨(w10.heap.size + 1), 1, none⟩ = some (.slice Ay ny cy) := fun o0 o1 => ((bB19.alloc (by first | omega | (simp; omega)) o0).alloc (by first | omega | (simp; omega)) o1) 1 _ rfl
    go_wp2_with fail
    clear lB18_0 lB18_1 lB19_0 lB19_1
    obtain ⟨w13, hW⟩ : ∃ W : World, W = ((w12.alloc (.cells #[.int .i64 x0, .slice Au nx cu] 27)).alloc (.cells #[.int .i64 y0, .slice Av ny cv] 27)) := ⟨_, rfl⟩
    rw [← hW]
    have hs_w13 : w13.heap.size = w12.heap.size + 2 := by rw [hW]; simp
    have hq : Below w12.heap.size w12 w13 := by rw [hW]; exact (((Below.refl _ _).alloc (by first | omega | (simp <;> omega) | simp) _).alloc (by first | omega | (simp <;> omega) | simp) _)
    replace bB4 := bB4.below hq (by omega)
    replace bB5 := bB5.below hq (by omega)
    replace bB18 := bB18.below hq (by omega)
    replace bB19 := bB19.below hq (by omega)
    replace Ma := hide (Ma.out.below hq (by omega))
    replace Mb := hide (Mb.out.below hq (by omega))
    replace Rt := hide (Rt.out.below hq (by omega))
    replace RR := hide (RR.out.below hq (by omega))
    replace Mx := hide (Mx.out.below hq (by omega))
    replace My := hide (My.out.below hq (by omega))
    replace Mu := hide (Mu.out.below hq (by omega))
    replace Mv := hide (Mv.out.below hq (by omega))
    replace HB := hide (HB.out.trans (hq.mono (by omega)))
    clear hq
    have bB21 : Box w13 w12.heap.size [.int .i64 x0, .slice Au nx cu] := by rw [hW]; exact ((box_at _ _ _ _ (by simp)).alloc (by first | omega | (simp <;> omega) | simp) _)
    have bB22 : Box w13 (w12.heap.size + 1) [.int .i64 y0, .slice Av ny cv] := by rw [hW]; exact (box_at _ _ _ _ (by simp))
    clear hW
    refine (sameMotion_same Ax Au nx cx _ _ cu _ _ x0 lx _ Mx.out HNX.out (by omega) (by omega) Mu.out (by omega)).mono ?_
    rintro e w14 ⟨rfl, hq⟩
    have hs_w14 : w13.heap.size ≤ w14.heap.size := hq.size
    replace bB4 := bB4.below hq (by omega)
    replace bB5 := bB5.below hq (by omega)
    replace bB18 := bB18.below hq (by omega)
    replace bB19 := bB19.below hq (by omega)
    replace bB21 := bB21.below hq (by omega)
    replace bB22 := bB22.below hq (by omega)
    replace Ma := hide (Ma.out.below hq (by omega))
    replace Mb := hide (Mb.out.below hq (by omega))
    replace Rt := hide (Rt.out.below hq (by omega))
    replace RR := hide (RR.out.below hq (by omega))
    replace Mx := hide (Mx.out.below hq (by omega))
    replace My := hide (My.out.below hq (by omega))
    replace Mu := hide (Mu.out.below hq (by omega))
    replace Mv := hide (Mv.out.below hq (by omega))
    replace HB := hide (HB.out.trans (hq.mono (by omega)))
    clear hq
    have lB18_0 := bB18 0 _ rfl
    have lB18_1 := bB18 1 _ rfl
    have lB19_0 := bB19 0 _ rfl
    have lB19_1 := bB19 1 _ rfl
    have lB21_0 := bB21 0 _ rfl
    have lB21_1 := bB21 1 _ rfl
    have lB22_0 := bB22 0 _ rfl
    have lB22_1 := bB22 1 _ rfl
    go_wp2_with fail
    clear lB18_0 lB18_1 lB19_0 lB19_1 lB21_0 lB21_1 lB22_0 lB22_1
    refine (sameMotion_same Ay Av ny cy _ _ cv _ _ y0 ly _ My.out HNY.out (by omega) (by omega) Mv.out (by omega)).mono ?_
    rintro e w15 ⟨rfl, hq⟩
    have hs_w15 : w14.heap.size ≤ w15.heap.size := hq.size
    replace bB4 := bB4.below hq (by omega)
    replace bB5 := bB5.below hq (by omega)
    replace bB18 := bB18.below hq (by omega)
    replace bB19 := bB19.below hq (by omega)
    replace bB21 := bB21.below hq (by omega)
    replace bB22 := bB22.below hq (by omega)
    replace Ma := hide (Ma.out.below hq (by omega))
    replace Mb := hide (Mb.out.below hq (by omega))
    replace Rt := hide (Rt.out.below hq (by omega))
    replace RR := hide (RR.out.below hq (by omega))
    replace Mx := hide (Mx.out.below hq (by omega))
    replace My := hide (My.out.below hq (by omega))
    replace Mu := hide (Mu.out.below hq (by omega))
    replace Mv := hide (Mv.out.below hq (by omega))
    replace HB := hide (HB.out.trans (hq.mono (by omega)))
    clear hq
    clear bB21
    clear bB22
    clear Mu
    clear Mv
    by_cases hrc : rc = 0
    · subst hrc
      go_wp2_with fail
      refine (specValidTable_d At nt ct _ _ Tt hmt _ Rt.out).mono ?_
      rintro e w' ⟨rfl, hw⟩
      obtain rfl := hw.symm
      clear hw
      cases hok : okT Tt
      · have lB4_0 := bB4 0 _ rfl
        have lB4_1 := bB4 1 _ rfl
        have lB5_0 := bB5 0 _ rfl
        have lB5_1 := bB5 1 _ rfl
        go_upto_region 19 with fail
        clear lB4_0 lB4_1 lB5_0 lB5_1
        by_cases hcn : cn = 0
        · subst hcn
          obtain ⟨m, hm1, hm2⟩ := ld_good (by rw [HLD.out])
          rw [HLD.out] at hm1
          have hm3 := hm2.le
          have hm4 := hm2.sum
          rw [HLa.out] at hm3
          rw [HLb.out] at hm4
          have HLG := hide hm2
          obtain rfl : nn = (m : Int) := hm1
          clear hm2
          go_wp2_with fail
          go_loopw [28, 29, 30, 31, 32] (fun i _ _ _ _ wr => ∃ k : Nat, k ≤ m + 1 ∧ i = .int .i64 (k : Int) ∧ Hid (Below w15.heap.size w15 wr)) (fun i _ _ _ _ _ => m + 1 - (intOf i).toNat)
          case atStart => exact ⟨0, by omega, rfl, hide (Below.refl _ _)⟩
          case round =>
            obtain ⟨k, hk, rfl, HL1⟩ := hrel
            generalize wr = wA at *
            have hq := HL1.out
            have hs_wA : w15.heap.size ≤ wA.heap.size := hq.size
            replace bB4 := bB4.below hq (by omega)
            replace bB5 := bB5.below hq (by omega)
            replace bB18 := bB18.below hq (by omega)
            replace bB19 := bB19.below hq (by omega)
            replace Ma := hide (Ma.out.below hq (by omega))
            replace Mb := hide (Mb.out.below hq (by omega))
            replace Rt := hide (Rt.out.below hq (by omega))
            replace RR := hide (RR.out.below hq (by omega))
            replace Mx := hide (Mx.out.below hq (by omega))
            replace My := hide (My.out.below hq (by omega))
            replace HB := hide (HB.out.trans (hq.mono (by omega)))
            clear hq
            by_cases hkm : k ≤ m
            · have z1 : (k : Int) ≤ (m : Int) := by omega
              obtain ⟨_, hvb⟩ : okT Tt = true ∧ moV sb lb = true := ⟨(coM_zero HLG.out.ok).1, (coM_zero HLG.out.ok).2.2⟩
              have HVB := hide hvb
              clear hvb
              have HCO := hide (HLG.out.code hkm)
              have HLL : Hid ((lat k lb).length = k + nb) := hide (by rw [lat_len, HLb.out])
              have lB4_0 := bB4 0 _ rfl
              have lB4_1 := bB4 1 _ rfl
              have lB5_0 := bB5 0 _ rfl
              have lB5_1 := bB5 1 _ rfl
              go_wp2_with fail
              clear lB4_0 lB4_1 lB5_0 lB5_1
              refine (delayMotion_any Ab nb cb _ _ sb lb HLb.out HVB.out k (by omega) _ (by omega) Mb.out).mono ?_
              rintro e w16 ⟨vd, rfl, hod, hq⟩
              have hs_w16 : wA.heap.size ≤ w16.heap.size := hq.size
              replace bB4 := bB4.below hq (by omega)
              replace bB5 := bB5.below hq (by omega)
              replace bB18 := bB18.below hq (by omega)
              replace bB19 := bB19.below hq (by omega)
              replace Ma := hide (Ma.out.below hq (by omega))
              replace Mb := hide (Mb.out.below hq (by omega))
              replace Rt := hide (Rt.out.below hq (by omega))
              replace RR := hide (RR.out.below hq (by omega))
              replace Mx := hide (Mx.out.below hq (by omega))
              replace My := hide (My.out.below hq (by omega))
              replace HB := hide (HB.out.trans (hq.mono (by omega)))
              replace HL1 := hide (HL1.out.trans (hq.mono (by omega)))
              clear hq
              obtain ⟨Ad, cd, rfl, _, _, hrd⟩ := hod.rd
              have Md := hide hrd
              clear hod hrd
              have lB4_0 : ∀ o0 : Obj, (w16.alloc o0).cell? ⟨w1.heap.size, 0, none⟩ = some (.int .i64 sa) := fun o0 => (bB4.alloc (by first | omega | (simp; omega)) o0) 0 _ rfl
              have lB4_1 : ∀ o0 : Obj, (w16.alloc o0).cell? ⟨w1.heap.size, 1, none⟩ = some (.slice Aa na ca) := fun o0 => (bB4.alloc (by first | omega | (simp; omega)) o0) 1 _ rfl
              have lB5_0 : ∀ o0 : Obj, (w16.alloc o0).cell? ⟨(w1.heap.size + 1), 0, none⟩ = some (.int .i64 sb) := fun o0 => (bB5.alloc (by first | omega | (simp; omega)) o0) 0 _ rfl
              have lB5_1 : ∀ o0 : Obj, (w16.alloc o0).cell? ⟨(w1.heap.size + 1), 1, none⟩ = some (.slice Ab nb cb) := fun o0 => (bB5.alloc (by first | omega | (simp; omega)) o0) 1 _ rfl
              go_wp2_with fail
              clear lB4_0 lB4_1 lB5_0 lB5_1
              obtain ⟨w17, hW⟩ : ∃ W : World, W = (w16.alloc (.cells #[.int .i64 sb, .slice Ad (k + nb) cd] 27)) := ⟨_, rfl⟩
              rw [← hW]
              have hs_w17 : w17.heap.size = w16.heap.size + 1 := by rw [hW]; simp
              have hq : Below w16.heap.size w16 w17 := by rw [hW]; exact ((Below.refl _ _).alloc (by first | omega | (simp <;> omega) | simp) _)
              replace bB4 := bB4.below hq (by omega)
              replace bB5 := bB5.below hq (by omega)
              replace bB18 := bB18.below hq (by omega)
              replace bB19 := bB19.below hq (by omega)
              replace Ma := hide (Ma.out.below hq (by omega))
              replace Mb := hide (Mb.out.below hq (by omega))
              replace Rt := hide (Rt.out.below hq (by omega))
              replace RR := hide (RR.out.below hq (by omega))
              replace Mx := hide (Mx.out.below hq (by omega))
              replace My := hide (My.out.below hq (by omega))
              replace Md := hide (Md.out.below hq (by omega))
              replace HB := hide (HB.out.trans (hq.mono (by omega)))
              replace HL1 := hide (HL1.out.trans (hq.mono (by omega)))
              clear hq
              have bB29 : Box w17 w16.heap.size [.int .i64 sb, .slice Ad (k + nb) cd] := by rw [hW]; exact (box_at _ _ _ _ (by simp))
              clear hW
              refine (implFirstConflict_any At nt ct _ _ Tt hmt Aa Ad na ca _ _ (k + nb) cd _ _ sa sb la (lat k lb) _ Rt.out (by omega) Ma.out HLa.out (by omega) (by omega) Md.out HLL.out (by omega) (by omega)).mono ?_
              rintro e w18 ⟨rfl, hq⟩
              have hs_w18 : w17.heap.size ≤ w18.heap.size := hq.size
              replace bB4 := bB4.below hq (by omega)
              replace bB5 := bB5.below hq (by omega)
              replace bB18 := bB18.below hq (by omega)
              replace bB19 := bB19.below hq (by omega)
              replace bB29 := bB29.below hq (by omega)
              replace Ma := hide (Ma.out.below hq (by omega))
              replace Mb := hide (Mb.out.below hq (by omega))
              replace Rt := hide (Rt.out.below hq (by omega))
              replace RR := hide (RR.out.below hq (by omega))
              replace Mx := hide (Mx.out.below hq (by omega))
              replace My := hide (My.out.below hq (by omega))
              replace Md := hide (Md.out.below hq (by omega))
              replace HB := hide (HB.out.trans (hq.mono (by omega)))
              replace HL1 := hide (HL1.out.trans (hq.mono (by omega)))
              clear hq
              rw [HCO.out]
              by_cases hkl : k = m
              · have hfv : fcV Tt sa la sb (lat k lb) = -1 := by rw [hkl]; exact HLG.out.last
                rw [hfv]
                have z2 : ((k : Int) == (m : Int)) = true := by simp; omega
                clear hfv hkl
                go_wp2_with fail
                go_roundw
                case rel => exact ⟨k + 1, by omega, by first | rfl | go_num, HL1⟩
                case measure => first | (simp [intOf]; done) | (simp [intOf]; omega)
              · obtain ⟨fv, hfv⟩ : ∃ z, fcV Tt sa la sb (lat k lb) = z := ⟨_, rfl⟩
                have hfv0 : 0 ≤ fv := by rw [← hfv]; exact HLG.out.early (by omega)
                rw [hfv]
                clear hfv
                have z2 : ((k : Int) == (m : Int)) = false := by simp; omega
                have z3 : (fv == -1) = false := by simp; omega
                go_wp2_with fail
                go_roundw
                case rel => exact ⟨k + 1, by omega, by first | rfl | go_num, HL1⟩
                case measure => first | (simp [intOf]; done) | (simp [intOf]; omega)
            · have z1 : ¬ (k : Int) ≤ (m : Int) := by omega
              go_wp2_with fail
              go_ret
              exact ⟨rfl, HB.out⟩
        · have hcn' : (cn == 0) = false := by simpa using hcn
          go_wp2_with fail
          go_ret
          exact ⟨rfl, HB.out⟩
      · have HOK := hide hok
        clear hok
        obtain ⟨⟨wr_, fv⟩, hHCP⟩ : ∃ z, crP Tt R = z := ⟨_, rfl⟩
        have HCP := hide hHCP
        clear hHCP
        go_wp2_with fail
        refine (implCheckRoute_any At A' nt ct _ _ n' c' _ _ Tt R hmt (by unfold maxLen; omega) _ Rt.out (by omega) RR.out (by omega)).mono ?_
        rintro e w16 ⟨rfl, hq⟩
        have hs_w16 : w15.heap.size ≤ w16.heap.size := hq.size
        replace bB4 := bB4.below hq (by omega)
        replace bB5 := bB5.below hq (by omega)
        replace bB18 := bB18.below hq (by omega)
        replace bB19 := bB19.below hq (by omega)
        replace Ma := hide (Ma.out.below hq (by omega))
        replace Mb := hide (Mb.out.below hq (by omega))
        replace Rt := hide (Rt.out.below hq (by omega))
        replace RR := hide (RR.out.below hq (by omega))
        replace Mx := hide (Mx.out.below hq (by omega))
        replace My := hide (My.out.below hq (by omega))
        replace HB := hide (HB.out.trans (hq.mono (by omega)))
        clear hq
        rw [HCP.out]
        obtain ⟨cf, hHCF⟩ : ∃ z, fcV Tt x0 lx y0 ly = z := ⟨_, rfl⟩
        have HCF := hide hHCF
        clear hHCF
        obtain ⟨cs, hHCS⟩ : ∃ z, coM Tt x0 lx y0 ly = z := ⟨_, rfl⟩
        have HCS := hide hHCS
        clear hHCS
        have lB18_0 := bB18 0 _ rfl
        have lB18_1 := bB18 1 _ rfl
        have lB19_0 := bB19 0 _ rfl
        have lB19_1 := bB19 1 _ rfl
        go_wp2_with fail
        clear lB18_0 lB18_1 lB19_0 lB19_1
        refine (implFirstConflict_any At nt ct _ _ Tt hmt Ax Ay nx cx _ _ ny cy _ _ x0 y0 lx ly _ Rt.out (by omega) Mx.out HNX.out (by omega) (by omega) My.out HNY.out (by omega) (by omega)).mono ?_
        rintro e w17 ⟨rfl, hq⟩
        have hs_w17 : w16.heap.size ≤ w17.heap.size := hq.size
        replace bB4 := bB4.below hq (by omega)
        replace bB5 := bB5.below hq (by omega)
        replace bB18 := bB18.below hq (by omega)
        replace bB19 := bB19.below hq (by omega)
        replace Ma := hide (Ma.out.below hq (by omega))
        replace Mb := hide (Mb.out.below hq (by omega))
        replace Rt := hide (Rt.out.below hq (by omega))
        replace RR := hide (RR.out.below hq (by omega))
        replace Mx := hide (Mx.out.below hq (by omega))
        replace My := hide (My.out.below hq (by omega))
        replace HB := hide (HB.out.trans (hq.mono (by omega)))
        clear hq
        rw [HCF.out, HCS.out]
        by_cases hfv : fv = 0
        · subst hfv
          by_cases hwr : wr_ = -1
          · subst hwr
            have hgood := route_free HOK.out HRC.out (by rw [HCP.out]) (by rw [HCP.out])
            rw [HX0.out, HY0.out, HLX.out, HLY.out, HCS.out, HCF.out] at hgood
            obtain ⟨rfl, rfl⟩ := hgood
            go_upto_region 19 with fail
            by_cases hcn : cn = 0
            · subst hcn
              obtain ⟨m, hm1, hm2⟩ := ld_good (by rw [HLD.out])
              rw [HLD.out] at hm1
              have hm3 := hm2.le
              have hm4 := hm2.sum
              rw [HLa.out] at hm3
              rw [HLb.out] at hm4
              have HLG := hide hm2
              obtain rfl : nn = (m : Int) := hm1
              clear hm2
              go_wp2_with fail
              go_loopw [28, 29, 30, 31, 32] (fun i _ _ _ _ wr => ∃ k : Nat, k ≤ m + 1 ∧ i = .int .i64 (k : Int) ∧ Hid (Below w17.heap.size w17 wr)) (fun i _ _ _ _ _ => m + 1 - (intOf i).toNat)
              case atStart => exact ⟨0, by omega, rfl, hide (Below.refl _ _)⟩
              case round =>
                obtain ⟨k, hk, rfl, HL1⟩ := hrel
                generalize wr = wA at *
                have hq := HL1.out
                have hs_wA : w17.heap.size ≤ wA.heap.size := hq.size
                replace bB4 := bB4.below hq (by omega)
                replace bB5 := bB5.below hq (by omega)
                replace bB18 := bB18.below hq (by omega)
                replace bB19 := bB19.below hq (by omega)
                replace Ma := hide (Ma.out.below hq (by omega))
                replace Mb := hide (Mb.out.below hq (by omega))
                replace Rt := hide (Rt.out.below hq (by omega))
                replace RR := hide (RR.out.below hq (by omega))
                replace Mx := hide (Mx.out.below hq (by omega))
                replace My := hide (My.out.below hq (by omega))
                replace HB := hide (HB.out.trans (hq.mono (by omega)))
                clear hq
                by_cases hkm : k ≤ m
                · have z1 : (k : Int) ≤ (m : Int) := by omega
                  obtain ⟨_, hvb⟩ : okT Tt = true ∧ moV sb lb = true := ⟨(coM_zero HLG.out.ok).1, (coM_zero HLG.out.ok).2.2⟩
                  have HVB := hide hvb
                  clear hvb
                  have HCO := hide (HLG.out.code hkm)
                  have HLL : Hid ((lat k lb).length = k + nb) := hide (by rw [lat_len, HLb.out])
                  have lB4_0 := bB4 0 _ rfl
                  have lB4_1 := bB4 1 _ rfl
                  have lB5_0 := bB5 0 _ rfl
                  have lB5_1 := bB5 1 _ rfl
                  go_wp2_with fail
                  clear lB4_0 lB4_1 lB5_0 lB5_1
                  refine (delayMotion_any Ab nb cb _ _ sb lb HLb.out HVB.out k (by omega) _ (by omega) Mb.out).mono ?_
                  rintro e w18 ⟨vd, rfl, hod, hq⟩
                  have hs_w18 : wA.heap.size ≤ w18.heap.size := hq.size
                  replace bB4 := bB4.below hq (by omega)
                  replace bB5 := bB5.below hq (by omega)
                  replace bB18 := bB18.below hq (by omega)
                  replace bB19 := bB19.below hq (by omega)
                  replace Ma := hide (Ma.out.below hq (by omega))
                  replace Mb := hide (Mb.out.below hq (by omega))
                  replace Rt := hide (Rt.out.below hq (by omega))
                  replace RR := hide (RR.out.below hq (by omega))
                  replace Mx := hide (Mx.out.below hq (by omega))
                  replace My := hide (My.out.below hq (by omega))
                  replace HB := hide (HB.out.trans (hq.mono (by omega)))
                  replace HL1 := hide (HL1.out.trans (hq.mono (by omega)))
                  clear hq
                  obtain ⟨Ad, cd, rfl, _, _, hrd⟩ := hod.rd
                  have Md := hide hrd
                  clear hod hrd
                  have lB4_0 : ∀ o0 : Obj, (w18.alloc o0).cell? ⟨w1.heap.size, 0, none⟩ = some (.int .i64 sa) := fun o0 => (bB4.alloc (by first | omega | (simp; omega)) o0) 0 _ rfl
                  have lB4_1 : ∀ o0 : Obj, (w18.alloc o0).cell? ⟨w1.heap.size, 1, none⟩ = some (.slice Aa na ca) := fun o0 => (bB4.alloc (by first | omega | (simp; omega)) o0) 1 _ rfl
                  have lB5_0 : ∀ o0 : Obj, (w18.alloc o0).cell? ⟨(w1.heap.size + 1), 0, none⟩ = some (.int .i64 sb) := fun o0 => (bB5.alloc (by first | omega | (simp; omega)) o0) 0 _ rfl
                  have lB5_1 : ∀ o0 : Obj, (w18.alloc o0).cell? ⟨(w1.heap.size + 1), 1, none⟩ = some (.slice Ab nb cb) := fun o0 => (bB5.alloc (by first | omega | (simp; omega)) o0) 1 _ rfl
                  go_wp2_with fail
                  clear lB4_0 lB4_1 lB5_0 lB5_1
                  obtain ⟨w19, hW⟩ : ∃ W : World, W = (w18.alloc (.cells #[.int .i64 sb, .slice Ad (k + nb) cd] 27)) := ⟨_, rfl⟩
                  rw [← hW]
                  have hs_w19 : w19.heap.size = w18.heap.size + 1 := by rw [hW]; simp
                  have hq : Below w18.heap.size w18 w19 := by rw [hW]; exact ((Below.refl _ _).alloc (by first | omega | (simp <;> omega) | simp) _)
                  replace bB4 := bB4.below hq (by omega)
                  replace bB5 := bB5.below hq (by omega)
                  replace bB18 := bB18.below hq (by omega)
                  replace bB19 := bB19.below hq (by omega)
                  replace Ma := hide (Ma.out.below hq (by omega))
                  replace Mb := hide (Mb.out.below hq (by omega))
                  replace Rt := hide (Rt.out.below hq (by omega))
                  replace RR := hide (RR.out.below hq (by omega))
                  replace Mx := hide (Mx.out.below hq (by omega))
                  replace My := hide (My.out.below hq (by omega))
                  replace Md := hide (Md.out.below hq (by omega))
                  replace HB := hide (HB.out.trans (hq.mono (by omega)))
                  replace HL1 := hide (HL1.out.trans (hq.mono (by omega)))
                  clear hq
                  have bB29 : Box w19 w18.heap.size [.int .i64 sb, .slice Ad (k + nb) cd] := by rw [hW]; exact (box_at _ _ _ _ (by simp))
                  clear hW
                  refine (implFirstConflict_any At nt ct _ _ Tt hmt Aa Ad na ca _ _ (k + nb) cd _ _ sa sb la (lat k lb) _ Rt.out (by omega) Ma.out HLa.out (by omega) (by omega) Md.out HLL.out (by omega) (by omega)).mono ?_
                  rintro e w20 ⟨rfl, hq⟩
                  have hs_w20 : w19.heap.size ≤ w20.heap.size := hq.size
                  replace bB4 := bB4.below hq (by omega)
                  replace bB5 := bB5.below hq (by omega)
                  replace bB18 := bB18.below hq (by omega)
                  replace bB19 := bB19.below hq (by omega)
                  replace bB29 := bB29.below hq (by omega)
                  replace Ma := hide (Ma.out.below hq (by omega))
                  replace Mb := hide (Mb.out.below hq (by omega))
                  replace Rt := hide (Rt.out.below hq (by omega))
                  replace RR := hide (RR.out.below hq (by omega))
                  replace Mx := hide (Mx.out.below hq (by omega))
                  replace My := hide (My.out.below hq (by omega))
                  replace Md := hide (Md.out.below hq (by omega))
                  replace HB := hide (HB.out.trans (hq.mono (by omega)))
                  replace HL1 := hide (HL1.out.trans (hq.mono (by omega)))
                  clear hq
                  rw [HCO.out]
                  by_cases hkl : k = m
                  · have hfv : fcV Tt sa la sb (lat k lb) = -1 := by rw [hkl]; exact HLG.out.last
                    rw [hfv]
                    have z2 : ((k : Int) == (m : Int)) = true := by simp; omega
                    clear hfv hkl
                    go_wp2_with fail
                    go_roundw
                    case rel => exact ⟨k + 1, by omega, by first | rfl | go_num, HL1⟩
                    case measure => first | (simp [intOf]; done) | (simp [intOf]; omega)
                  · obtain ⟨fv, hfv⟩ : ∃ z, fcV Tt sa la sb (lat k lb) = z := ⟨_, rfl⟩
                    have hfv0 : 0 ≤ fv := by rw [← hfv]; exact HLG.out.early (by omega)
                    rw [hfv]
                    clear hfv
                    have z2 : ((k : Int) == (m : Int)) = false := by simp; omega
                    have z3 : (fv == -1) = false := by simp; omega
                    go_wp2_with fail
                    go_roundw
                    case rel => exact ⟨k + 1, by omega, by first | rfl | go_num, HL1⟩
                    case measure => first | (simp [intOf]; done) | (simp [intOf]; omega)
                · have z1 : ¬ (k : Int) ≤ (m : Int) := by omega
                  go_wp2_with fail
                  go_ret
                  exact ⟨rfl, HB.out⟩
            · have hcn' : (cn == 0) = false := by simpa using hcn
              go_wp2_with fail
              go_ret
              exact ⟨rfl, HB.out⟩
          · have hwr' : (wr_ == -1) = false := by simpa using hwr
            go_upto_region 19 with fail
            by_cases hcn : cn = 0
            · subst hcn
              obtain ⟨m, hm1, hm2⟩ := ld_good (by rw [HLD.out])
              rw [HLD.out] at hm1
              have hm3 := hm2.le
              have hm4 := hm2.sum
              rw [HLa.out] at hm3
              rw [HLb.out] at hm4
              have HLG := hide hm2
              obtain rfl : nn = (m : Int) := hm1
              clear hm2
              go_wp2_with fail
              go_loopw [28, 29, 30, 31, 32] (fun i _ _ _ _ wr => ∃ k : Nat, k ≤ m + 1 ∧ i = .int .i64 (k : Int) ∧ Hid (Below w17.heap.size w17 wr)) (fun i _ _ _ _ _ => m + 1 - (intOf i).toNat)
              case atStart => exact ⟨0, by omega, rfl, hide (Below.refl _ _)⟩
              case round =>
                obtain ⟨k, hk, rfl, HL1⟩ := hrel
                generalize wr = wA at *
                have hq := HL1.out
                have hs_wA : w17.heap.size ≤ wA.heap.size := hq.size
                replace bB4 := bB4.below hq (by omega)
                replace bB5 := bB5.below hq (by omega)
                replace bB18 := bB18.below hq (by omega)
                replace bB19 := bB19.below hq (by omega)
                replace Ma := hide (Ma.out.below hq (by omega))
                replace Mb := hide (Mb.out.below hq (by omega))
                replace Rt := hide (Rt.out.below hq (by omega))
                replace RR := hide (RR.out.below hq (by omega))
                replace Mx := hide (Mx.out.below hq (by omega))
                replace My := hide (My.out.below hq (by omega))
                replace HB := hide (HB.out.trans (hq.mono (by omega)))
                clear hq
                by_cases hkm : k ≤ m
                · have z1 : (k : Int) ≤ (m : Int) := by omega
                  obtain ⟨_, hvb⟩ : okT Tt = true ∧ moV sb lb = true := ⟨(coM_zero HLG.out.ok).1, (coM_zero HLG.out.ok).2.2⟩
                  have HVB := hide hvb
                  clear hvb
                  have HCO := hide (HLG.out.code hkm)
                  have HLL : Hid ((lat k lb).length = k + nb) := hide (by rw [lat_len, HLb.out])
                  have lB4_0 := bB4 0 _ rfl
                  have lB4_1 := bB4 1 _ rfl
                  have lB5_0 := bB5 0 _ rfl
                  have lB5_1 := bB5 1 _ rfl
                  go_wp2_with fail
                  clear lB4_0 lB4_1 lB5_0 lB5_1
                  refine (delayMotion_any Ab nb cb _ _ sb lb HLb.out HVB.out k (by omega) _ (by omega) Mb.out).mono ?_
                  rintro e w18 ⟨vd, rfl, hod, hq⟩
                  have hs_w18 : wA.heap.size ≤ w18.heap.size := hq.size
                  replace bB4 := bB4.below hq (by omega)
                  replace bB5 := bB5.below hq (by omega)
                  replace bB18 := bB18.below hq (by omega)
                  replace bB19 := bB19.below hq (by omega)
                  replace Ma := hide (Ma.out.below hq (by omega))
                  replace Mb := hide (Mb.out.below hq (by omega))
                  replace Rt := hide (Rt.out.below hq (by omega))
                  replace RR := hide (RR.out.below hq (by omega))
                  replace Mx := hide (Mx.out.below hq (by omega))
                  replace My := hide (My.out.below hq (by omega))
                  replace HB := hide (HB.out.trans (hq.mono (by omega)))
                  replace HL1 := hide (HL1.out.trans (hq.mono (by omega)))
                  clear hq
                  obtain ⟨Ad, cd, rfl, _, _, hrd⟩ := hod.rd
                  have Md := hide hrd
                  clear hod hrd
                  have lB4_0 : ∀ o0 : Obj, (w18.alloc o0).cell? ⟨w1.heap.size, 0, none⟩ = some (.int .i64 sa) := fun o0 => (bB4.alloc (by first | omega | (simp; omega)) o0) 0 _ rfl
                  have lB4_1 : ∀ o0 : Obj, (w18.alloc o0).cell? ⟨w1.heap.size, 1, none⟩ = some (.slice Aa na ca) := fun o0 => (bB4.alloc (by first | omega | (simp; omega)) o0) 1 _ rfl
                  have lB5_0 : ∀ o0 : Obj, (w18.alloc o0).cell? ⟨(w1.heap.size + 1), 0, none⟩ = some (.int .i64 sb) := fun o0 => (bB5.alloc (by first | omega | (simp; omega)) o0) 0 _ rfl
                  have lB5_1 : ∀ o0 : Obj, (w18.alloc o0).cell? ⟨(w1.heap.size + 1), 1, none⟩ = some (.slice Ab nb cb) := fun o0 => (bB5.alloc (by first | omega | (simp; omega)) o0) 1 _ rfl
                  go_wp2_with fail
                  clear lB4_0 lB4_1 lB5_0 lB5_1
                  obtain ⟨w19, hW⟩ : ∃ W : World, W = (w18.alloc (.cells #[.int .i64 sb, .slice Ad (k + nb) cd] 27)) := ⟨_, rfl⟩
                  rw [← hW]
                  have hs_w19 : w19.heap.size = w18.heap.size + 1 := by rw [hW]; simp
                  have hq : Below w18.heap.size w18 w19 := by rw [hW]; exact ((Below.refl _ _).alloc (by first | omega | (simp <;> omega) | simp) _)
                  replace bB4 := bB4.below hq (by omega)
                  replace bB5 := bB5.below hq (by omega)
                  replace bB18 := bB18.below hq (by omega)
                  replace bB19 := bB19.below hq (by omega)
                  replace Ma := hide (Ma.out.below hq (by omega))
                  replace Mb := hide (Mb.out.below hq (by omega))
                  replace Rt := hide (Rt.out.below hq (by omega))
                  replace RR := hide (RR.out.below hq (by omega))
                  replace Mx := hide (Mx.out.below hq (by omega))
                  replace My := hide (My.out.below hq (by omega))
                  replace Md := hide (Md.out.below hq (by omega))
                  replace HB := hide (HB.out.trans (hq.mono (by omega)))
                  replace HL1 := hide (HL1.out.trans (hq.mono (by omega)))
                  clear hq
                  have bB29 : Box w19 w18.heap.size [.int .i64 sb, .slice Ad (k + nb) cd] := by rw [hW]; exact (box_at _ _ _ _ (by simp))
                  clear hW
                  refine (implFirstConflict_any At nt ct _ _ Tt hmt Aa Ad na ca _ _ (k + nb) cd _ _ sa sb la (lat k lb) _ Rt.out (by omega) Ma.out HLa.out (by omega) (by omega) Md.out HLL.out (by omega) (by omega)).mono ?_
                  rintro e w20 ⟨rfl, hq⟩
                  have hs_w20 : w19.heap.size ≤ w20.heap.size := hq.size
                  replace bB4 := bB4.below hq (by omega)
                  replace bB5 := bB5.below hq (by omega)
                  replace bB18 := bB18.below hq (by omega)
                  replace bB19 := bB19.below hq (by omega)
                  replace bB29 := bB29.below hq (by omega)
                  replace Ma := hide (Ma.out.below hq (by omega))
                  replace Mb := hide (Mb.out.below hq (by omega))
                  replace Rt := hide (Rt.out.below hq (by omega))
                  replace RR := hide (RR.out.below hq (by omega))
                  replace Mx := hide (Mx.out.below hq (by omega))
                  replace My := hide (My.out.below hq (by omega))
                  replace Md := hide (Md.out.below hq (by omega))
                  replace HB := hide (HB.out.trans (hq.mono (by omega)))
                  replace HL1 := hide (HL1.out.trans (hq.mono (by omega)))
                  clear hq
                  rw [HCO.out]
                  by_cases hkl : k = m
                  · have hfv : fcV Tt sa la sb (lat k lb) = -1 := by rw [hkl]; exact HLG.out.last
                    rw [hfv]
                    have z2 : ((k : Int) == (m : Int)) = true := by simp; omega
                    clear hfv hkl
                    go_wp2_with fail
                    go_roundw
                    case rel => exact ⟨k + 1, by omega, by first | rfl | go_num, HL1⟩
                    case measure => first | (simp [intOf]; done) | (simp [intOf]; omega)
                  · obtain ⟨fv, hfv⟩ : ∃ z, fcV Tt sa la sb (lat k lb) = z := ⟨_, rfl⟩
                    have hfv0 : 0 ≤ fv := by rw [← hfv]; exact HLG.out.early (by omega)
                    rw [hfv]
                    clear hfv
                    have z2 : ((k : Int) == (m : Int)) = false := by simp; omega
                    have z3 : (fv == -1) = false := by simp; omega
                    go_wp2_with fail
                    go_roundw
                    case rel => exact ⟨k + 1, by omega, by first | rfl | go_num, HL1⟩
                    case measure => first | (simp [intOf]; done) | (simp [intOf]; omega)
                · have z1 : ¬ (k : Int) ≤ (m : Int) := by omega
                  go_wp2_with fail
                  go_ret
                  exact ⟨rfl, HB.out⟩
            · have hcn' : (cn == 0) = false := by simpa using hcn
              go_wp2_with fail
              go_ret
              exact ⟨rfl, HB.out⟩
        · have hfv' : (fv == 0) = false := by simpa using hfv
          go_upto_region 19 with fail
          by_cases hcn : cn = 0
          · subst hcn
            obtain ⟨m, hm1, hm2⟩ := ld_good (by rw [HLD.out])
            rw [HLD.out] at hm1
            have hm3 := hm2.le
            have hm4 := hm2.sum
            rw [HLa.out] at hm3
            rw [HLb.out] at hm4
            have HLG := hide hm2
            obtain rfl : nn = (m : Int) := hm1
            clear hm2
            go_wp2_with fail
            go_loopw [28, 29, 30, 31, 32] (fun i _ _ _ _ wr => ∃ k : Nat, k ≤ m + 1 ∧ i = .int .i64 (k : Int) ∧ Hid (Below w17.heap.size w17 wr)) (fun i _ _ _ _ _ => m + 1 - (intOf i).toNat)
            case atStart => exact ⟨0, by omega, rfl, hide (Below.refl _ _)⟩
            case round =>
              obtain ⟨k, hk, rfl, HL1⟩ := hrel
              generalize wr = wA at *
              have hq := HL1.out
              have hs_wA : w17.heap.size ≤ wA.heap.size := hq.size
              replace bB4 := bB4.below hq (by omega)
              replace bB5 := bB5.below hq (by omega)
              replace bB18 := bB18.below hq (by omega)
              replace bB19 := bB19.below hq (by omega)
              replace Ma := hide (Ma.out.below hq (by omega))
              replace Mb := hide (Mb.out.below hq (by omega))
              replace Rt := hide (Rt.out.below hq (by omega))
              replace RR := hide (RR.out.below hq (by omega))
              replace Mx := hide (Mx.out.below hq (by omega))
              replace My := hide (My.out.below hq (by omega))
              replace HB := hide (HB.out.trans (hq.mono (by omega)))
              clear hq
              by_cases hkm : k ≤ m
              · have z1 : (k : Int) ≤ (m : Int) := by omega
                obtain ⟨_, hvb⟩ : okT Tt = true ∧ moV sb lb = true := ⟨(coM_zero HLG.out.ok).1, (coM_zero HLG.out.ok).2.2⟩
                have HVB := hide hvb
                clear hvb
                have HCO := hide (HLG.out.code hkm)
                have HLL : Hid ((lat k lb).length = k + nb) := hide (by rw [lat_len, HLb.out])
                have lB4_0 := bB4 0 _ rfl
                have lB4_1 := bB4 1 _ rfl
                have lB5_0 := bB5 0 _ rfl
                have lB5_1 := bB5 1 _ rfl
                go_wp2_with fail
                clear lB4_0 lB4_1 lB5_0 lB5_1
                refine (delayMotion_any Ab nb cb _ _ sb lb HLb.out HVB.out k (by omega) _ (by omega) Mb.out).mono ?_
                rintro e w18 ⟨vd, rfl, hod, hq⟩
                have hs_w18 : wA.heap.size ≤ w18.heap.size := hq.size
                replace bB4 := bB4.below hq (by omega)
                replace bB5 := bB5.below hq (by omega)
                replace bB18 := bB18.below hq (by omega)
                replace bB19 := bB19.below hq (by omega)
                replace Ma := hide (Ma.out.below hq (by omega))
                replace Mb := hide (Mb.out.below hq (by omega))
                replace Rt := hide (Rt.out.below hq (by omega))
                replace RR := hide (RR.out.below hq (by omega))
                replace Mx := hide (Mx.out.below hq (by omega))
                replace My := hide (My.out.below hq (by omega))
                replace HB := hide (HB.out.trans (hq.mono (by omega)))
                replace HL1 := hide (HL1.out.trans (hq.mono (by omega)))
                clear hq
                obtain ⟨Ad, cd, rfl, _, _, hrd⟩ := hod.rd
                have Md := hide hrd
                clear hod hrd
                have lB4_0 : ∀ o0 : Obj, (w18.alloc o0).cell? ⟨w1.heap.size, 0, none⟩ = some (.int .i64 sa) := fun o0 => (bB4.alloc (by first | omega | (simp; omega)) o0) 0 _ rfl
                have lB4_1 : ∀ o0 : Obj, (w18.alloc o0).cell? ⟨w1.heap.size, 1, none⟩ = some (.slice Aa na ca) := fun o0 => (bB4.alloc (by first | omega | (simp; omega)) o0) 1 _ rfl
                have lB5_0 : ∀ o0 : Obj, (w18.alloc o0).cell? ⟨(w1.heap.size + 1), 0, none⟩ = some (.int .i64 sb) := fun o0 => (bB5.alloc (by first | omega | (simp; omega)) o0) 0 _ rfl
                have lB5_1 : ∀ o0 : Obj, (w18.alloc o0).cell? ⟨(w1.heap.size + 1), 1, none⟩ = some (.slice Ab nb cb) := fun o0 => (bB5.alloc (by first | omega | (simp; omega)) o0) 1 _ rfl
                go_wp2_with fail
                clear lB4_0 lB4_1 lB5_0 lB5_1
                obtain ⟨w19, hW⟩ : ∃ W : World, W = (w18.alloc (.cells #[.int .i64 sb, .slice Ad (k + nb) cd] 27)) := ⟨_, rfl⟩
                rw [← hW]
                have hs_w19 : w19.heap.size = w18.heap.size + 1 := by rw [hW]; simp
                have hq : Below w18.heap.size w18 w19 := by rw [hW]; exact ((Below.refl _ _).alloc (by first | omega | (simp <;> omega) | simp) _)
                replace bB4 := bB4.below hq (by omega)
                replace bB5 := bB5.below hq (by omega)
                replace bB18 := bB18.below hq (by omega)
                replace bB19 := bB19.below hq (by omega)
                replace Ma := hide (Ma.out.below hq (by omega))
                replace Mb := hide (Mb.out.below hq (by omega))
                replace Rt := hide (Rt.out.below hq (by omega))
                replace RR := hide (RR.out.below hq (by omega))
                replace Mx := hide (Mx.out.below hq (by omega))
                replace My := hide (My.out.below hq (by omega))
                replace Md := hide (Md.out.below hq (by omega))
                replace HB := hide (HB.out.trans (hq.mono (by omega)))
                replace HL1 := hide (HL1.out.trans (hq.mono (by omega)))
                clear hq
                have bB29 : Box w19 w18.heap.size [.int .i64 sb, .slice Ad (k + nb) cd] := by rw [hW]; exact (box_at _ _ _ _ (by simp))
                clear hW
                refine (implFirstConflict_any At nt ct _ _ Tt hmt Aa Ad na ca _ _ (k + nb) cd _ _ sa sb la (lat k lb) _ Rt.out (by omega) Ma.out HLa.out (by omega) (by omega) Md.out HLL.out (by omega) (by omega)).mono ?_
                rintro e w20 ⟨rfl, hq⟩
                have hs_w20 : w19.heap.size ≤ w20.heap.size := hq.size
                replace bB4 := bB4.below hq (by omega)
                replace bB5 := bB5.below hq (by omega)
                replace bB18 := bB18.below hq (by omega)
                replace bB19 := bB19.below hq (by omega)
                replace bB29 := bB29.below hq (by omega)
                replace Ma := hide (Ma.out.below hq (by omega))
                replace Mb := hide (Mb.out.below hq (by omega))
                replace Rt := hide (Rt.out.below hq (by omega))
                replace RR := hide (RR.out.below hq (by omega))
                replace Mx := hide (Mx.out.below hq (by omega))
                replace My := hide (My.out.below hq (by omega))
                replace Md := hide (Md.out.below hq (by omega))
                replace HB := hide (HB.out.trans (hq.mono (by omega)))
                replace HL1 := hide (HL1.out.trans (hq.mono (by omega)))
                clear hq
                rw [HCO.out]
                by_cases hkl : k = m
                · have hfv : fcV Tt sa la sb (lat k lb) = -1 := by rw [hkl]; exact HLG.out.last
                  rw [hfv]
                  have z2 : ((k : Int) == (m : Int)) = true := by simp; omega
                  clear hfv hkl
                  go_wp2_with fail
                  go_roundw
                  case rel => exact ⟨k + 1, by omega, by first | rfl | go_num, HL1⟩
                  case measure => first | (simp [intOf]; done) | (simp [intOf]; omega)
                · obtain ⟨fv, hfv⟩ : ∃ z, fcV Tt sa la sb (lat k lb) = z := ⟨_, rfl⟩
                  have hfv0 : 0 ≤ fv := by rw [← hfv]; exact HLG.out.early (by omega)
                  rw [hfv]
                  clear hfv
                  have z2 : ((k : Int) == (m : Int)) = false := by simp; omega
                  have z3 : (fv == -1) = false := by simp; omega
                  go_wp2_with fail
                  go_roundw
                  case rel => exact ⟨k + 1, by omega, by first | rfl | go_num, HL1⟩
                  case measure => first | (simp [intOf]; done) | (simp [intOf]; omega)
              · have z1 : ¬ (k : Int) ≤ (m : Int) := by omega
                go_wp2_with fail
                go_ret
                exact ⟨rfl, HB.out⟩
          · have hcn' : (cn == 0) = false := by simpa using hcn
            go_wp2_with fail
            go_ret
            exact ⟨rfl, HB.out⟩
    · have hrc' : (rc == 0) = false := by simpa using hrc
      go_upto_region 19 with fail
      by_cases hcn : cn = 0
      · subst hcn
        obtain ⟨m, hm1, hm2⟩ := ld_good (by rw [HLD.out])
        rw [HLD.out] at hm1
        have hm3 := hm2.le
        have hm4 := hm2.sum
        rw [HLa.out] at hm3
        rw [HLb.out] at hm4
        have HLG := hide hm2
        obtain rfl : nn = (m : Int) := hm1
        clear hm2
        go_wp2_with fail
        go_loopw [28, 29, 30, 31, 32] (fun i _ _ _ _ wr => ∃ k : Nat, k ≤ m + 1 ∧ i = .int .i64 (k : Int) ∧ Hid (Below w15.heap.size w15 wr)) (fun i _ _ _ _ _ => m + 1 - (intOf i).toNat)
        case atStart => exact ⟨0, by omega, rfl, hide (Below.refl _ _)⟩
        case round =>
          obtain ⟨k, hk, rfl, HL1⟩ := hrel
          generalize wr = wA at *
          have hq := HL1.out
          have hs_wA : w15.heap.size ≤ wA.heap.size := hq.size
          replace bB4 := bB4.below hq (by omega)
          replace bB5 := bB5.below hq (by omega)
          replace bB18 := bB18.below hq (by omega)
          replace bB19 := bB19.below hq (by omega)
          replace Ma := hide (Ma.out.below hq (by omega))
          replace Mb := hide (Mb.out.below hq (by omega))
          replace Rt := hide (Rt.out.below hq (by omega))
          replace RR := hide (RR.out.below hq (by omega))
          replace Mx := hide (Mx.out.below hq (by omega))
          replace My := hide (My.out.below hq (by omega))
          replace HB := hide (HB.out.trans (hq.mono (by omega)))
          clear hq
          by_cases hkm : k ≤ m
          · have z1 : (k : Int) ≤ (m : Int) := by omega
            obtain ⟨_, hvb⟩ : okT Tt = true ∧ moV sb lb = true := ⟨(coM_zero HLG.out.ok).1, (coM_zero HLG.out.ok).2.2⟩
            have HVB := hide hvb
            clear hvb
            have HCO := hide (HLG.out.code hkm)
            have HLL : Hid ((lat k lb).length = k + nb) := hide (by rw [lat_len, HLb.out])
            have lB4_0 := bB4 0 _ rfl
            have lB4_1 := bB4 1 _ rfl
            have lB5_0 := bB5 0 _ rfl
            have lB5_1 := bB5 1 _ rfl
            go_wp2_with fail
            clear lB4_0 lB4_1 lB5_0 lB5_1
            refine (delayMotion_any Ab nb cb _ _ sb lb HLb.out HVB.out k (by omega) _ (by omega) Mb.out).mono ?_
            rintro e w16 ⟨vd, rfl, hod, hq⟩
            have hs_w16 : wA.heap.size ≤ w16.heap.size := hq.size
            replace bB4 := bB4.below hq (by omega)
            replace bB5 := bB5.below hq (by omega)
            replace bB18 := bB18.below hq (by omega)
            replace bB19 := bB19.below hq (by omega)
            replace Ma := hide (Ma.out.below hq (by omega))
            replace Mb := hide (Mb.out.below hq (by omega))
            replace Rt := hide (Rt.out.below hq (by omega))
            replace RR := hide (RR.out.below hq (by omega))
            replace Mx := hide (Mx.out.below hq (by omega))
            replace My := hide (My.out.below hq (by omega))
            replace HB := hide (HB.out.trans (hq.mono (by omega)))
            replace HL1 := hide (HL1.out.trans (hq.mono (by omega)))
            clear hq
            obtain ⟨Ad, cd, rfl, _, _, hrd⟩ := hod.rd
            have Md := hide hrd
            clear hod hrd
            have lB4_0 : ∀ o0 : Obj, (w16.alloc o0).cell? ⟨w1.heap.size, 0, none⟩ = some (.int .i64 sa) := fun o0 => (bB4.alloc (by first | omega | (simp; omega)) o0) 0 _ rfl
            have lB4_1 : ∀ o0 : Obj, (w16.alloc o0).cell? ⟨w1.heap.size, 1, none⟩ = some (.slice Aa na ca) := fun o0 => (bB4.alloc (by first | omega | (simp; omega)) o0) 1 _ rfl
            have lB5_0 : ∀ o0 : Obj, (w16.alloc o0).cell? ⟨(w1.heap.size + 1), 0, none⟩ = some (.int .i64 sb) := fun o0 => (bB5.alloc (by first | omega | (simp; omega)) o0) 0 _ rfl
            have lB5_1 : ∀ o0 : Obj, (w16.alloc o0).cell? ⟨(w1.heap.size + 1), 1, none⟩ = some (.slice Ab nb cb) := fun o0 => (bB5.alloc (by first | omega | (simp; omega)) o0) 1 _ rfl
            go_wp2_with fail
            clear lB4_0 lB4_1 lB5_0 lB5_1
            obtain ⟨w17, hW⟩ : ∃ W : World, W = (w16.alloc (.cells #[.int .i64 sb, .slice Ad (k + nb) cd] 27)) := ⟨_, rfl⟩
            rw [← hW]
            have hs_w17 : w17.heap.size = w16.heap.size + 1 := by rw [hW]; simp
            have hq : Below w16.heap.size w16 w17 := by rw [hW]; exact ((Below.refl _ _).alloc (by first | omega | (simp <;> omega) | simp) _)
            replace bB4 := bB4.below hq (by omega)
            replace bB5 := bB5.below hq (by omega)
            replace bB18 := bB18.below hq (by omega)
            replace bB19 := bB19.below hq (by omega)
            replace Ma := hide (Ma.out.below hq (by omega))
            replace Mb := hide (Mb.out.below hq (by omega))
            replace Rt := hide (Rt.out.below hq (by omega))
            replace RR := hide (RR.out.below hq (by omega))
            replace Mx := hide (Mx.out.below hq (by omega))
            replace My := hide (My.out.below hq (by omega))
            replace Md := hide (Md.out.below hq (by omega))
            replace HB := hide (HB.out.trans (hq.mono (by omega)))
            replace HL1 := hide (HL1.out.trans (hq.mono (by omega)))
            clear hq
            have bB29 : Box w17 w16.heap.size [.int .i64 sb, .slice Ad (k + nb) cd] := by rw [hW]; exact (box_at _ _ _ _ (by simp))
            clear hW
            refine (implFirstConflict_any At nt ct _ _ Tt hmt Aa Ad na ca _ _ (k + nb) cd _ _ sa sb la (lat k lb) _ Rt.out (by omega) Ma.out HLa.out (by omega) (by omega) Md.out HLL.out (by omega) (by omega)).mono ?_
            rintro e w18 ⟨rfl, hq⟩
            have hs_w18 : w17.heap.size ≤ w18.heap.size := hq.size
            replace bB4 := bB4.below hq (by omega)
            replace bB5 := bB5.below hq (by omega)
            replace bB18 := bB18.below hq (by omega)
            replace bB19 := bB19.below hq (by omega)
            replace bB29 := bB29.below hq (by omega)
            replace Ma := hide (Ma.out.below hq (by omega))
            replace Mb := hide (Mb.out.below hq (by omega))
            replace Rt := hide (Rt.out.below hq (by omega))
            replace RR := hide (RR.out.below hq (by omega))
            replace Mx := hide (Mx.out.below hq (by omega))
            replace My := hide (My.out.below hq (by omega))
            replace Md := hide (Md.out.below hq (by omega))
            replace HB := hide (HB.out.trans (hq.mono (by omega)))
            replace HL1 := hide (HL1.out.trans (hq.mono (by omega)))
            clear hq
            rw [HCO.out]
            by_cases hkl : k = m
            · have hfv : fcV Tt sa la sb (lat k lb) = -1 := by rw [hkl]; exact HLG.out.last
              rw [hfv]
              have z2 : ((k : Int) == (m : Int)) = true := by simp; omega
              clear hfv hkl
              go_wp2_with fail
              go_roundw
              case rel => exact ⟨k + 1, by omega, by first | rfl | go_num, HL1⟩
              case measure => first | (simp [intOf]; done) | (simp [intOf]; omega)
            · obtain ⟨fv, hfv⟩ : ∃ z, fcV Tt sa la sb (lat k lb) = z := ⟨_, rfl⟩
              have hfv0 : 0 ≤ fv := by rw [← hfv]; exact HLG.out.early (by omega)
              rw [hfv]
              clear hfv
              have z2 : ((k : Int) == (m : Int)) = false := by simp; omega
              have z3 : (fv == -1) = false := by simp; omega
              go_wp2_with fail
              go_roundw
              case rel => exact ⟨k + 1, by omega, by first | rfl | go_num, HL1⟩
              case measure => first | (simp [intOf]; done) | (simp [intOf]; omega)
          · have z1 : ¬ (k : Int) ≤ (m : Int) := by omega
            go_wp2_with fail
            go_ret
            exact ⟨rfl, HB.out⟩
      · have hcn' : (cn == 0) = false := by simpa using hcn
        go_wp2_with fail
        go_ret
        exact ⟨rfl, HB.out⟩
  · have HR0 := hide hr0
    clear hr0 hw0 hl0
    go_enter Try.func3, Try.ntmps3
    go_wp2_with fail
    refine (d6yes A0 n0 c0 (by omega) _).mono ?_
    rintro e w' ⟨rfl, rfl⟩
    go_wp2_with fail
    go_ret
    exact ⟨rfl, Below.refl _ _⟩

set_option maxRecDepth 100000 in
theorem lifted (os : Os) (started : os.Started) (H : Type) (enc : TypeId × Value → H) :
    ReturnsInHanded {} Try.checked os 3 .any (Rows.fnDelaysSpec.pre6 enc Try.prog Try.f3 Rows.fnDelaysRow.domain false) (Rows.fnDelaysSpec.post enc Try.prog Try.f3 false true false false) := by
  refine returnsInHanded_of_change (C := Try.checked) own started (by kernel_rfl) Try.func3
    (ChangeSpec.witness6 (enc := enc) (C := Try.checked) false ⟨#[], #[.slice none 0 0], []⟩ 8 (by kernel_rfl) (by kernel_rfl) (by kernel_rfl) (by kernel_rfl)) ?_
  intro W base args ds gs before hval0 hW hcnd _
  have hval : ∀ (j : Nat) t v, Try.f3.params[j]? = some t → args[j]? = some v → Value.okWide Try.prog W .any base t v := hval0
  have hW' := hW
  obtain ⟨p, q, hA0, hV, rfl, hfz, hnd⟩ := hW
  have hA : DataW.TrodAll enc Try.prog W 0 (fun _ => true) true Try.f3.params.toList args.toList ds p := hA0
  rw [Try.params3] at hA hval
  obtain ⟨v0, vs0, d0, ds0, p0, q0, hargs, rfl, rfl, h0, r0⟩ := trodAll_cons hA
  obtain ⟨rfl, rfl, rfl⟩ := trodAll_nil r0
  obtain rfl : args = #[v0] := by cases args; simp_all
  obtain ⟨rfl, rfl⟩ := trodVars_none hV
  obtain ⟨A0, n0, c0, l0, rfl, hnc0, hcm0, hl0, hr0, hw0⟩ := open_ByteS (hval 0 22 v0 rfl rfl) h0
  clear hA0 hval0
  refine (walk W A0 n0 c0 l0 hl0 (Nat.le_trans hnc0 hcm0) hr0 hw0).mono fun e W' ⟨he, hB⟩ => ?_
  subst he
  exact ⟨_, rfl, law_post laidOut Try.underlying4 rfl (by kernel_rfl) (by kernel_rfl) hW' rfl rfl rfl hB⟩

theorem proved : Rows.FnDelaysSaid :=
  OpenClaim.holds_of_wide 3 Try.f3 rfl rfl rfl rfl rfl rfl rfl ⟨rfl, rfl, rfl, rfl, rfl⟩ rfl rfl rfl rfl rfl (by kernel_rfl) Try.func3 (joined rfl rfl rfl (by kernel_rfl))
    (of_decide_eq_true (by kernel_rfl)) (by unfold Func.isWrapper; first | (rw [if_pos (by decide +kernel)]; kernel_rfl) | (rw [if_neg (by decide +kernel)]; exact ⟨rfl, rfl⟩))
    (fun os started H enc _ => lifted os started H enc)
#print axioms proved
end fnDelays
end Go.Proofs.Ytoklcjpokffocaa
