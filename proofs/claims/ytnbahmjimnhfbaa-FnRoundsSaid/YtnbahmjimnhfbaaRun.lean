/-
  RunRound: the reference's and the program's. No condition but those that each theorem names.
-/
import Derived.Test.YtnbahmjimnhfbaaNeed
import Derived.Deep.DeepCutAuto
namespace Go.Proofs.Ytnbahmjimnhfbaa
open Go.RowKit
set_option linter.unusedVariables false

/-- Both controllers behind RunRound. -/
def rrP (T : List (List Bool)) (mg st : Int) (x1 x2 : Bool) (a b : Ctl) : Ctl × Ctl := if codeC T mg st [a, b] = 0 then roundC T mg st x1 x2 (a, b) else ((0, 0, 0, 0, 0), (0, 0, 0, 0, 0))
theorem dcell_ (W : World) (p : Addr) : (World.drew W).cell? p = W.cell? p := rfl
theorem far5n {W : World} {b g i : Nat} {a0 a1 a2 a3 a4 : Value} (h : b ≠ g) : (((((W.setCell ⟨b, 0, none⟩ a0).setCell ⟨b, 1, none⟩ a1).setCell ⟨b, 2, none⟩ a2).setCell ⟨b, 3, none⟩ a3).setCell ⟨b, 4, none⟩ a4).cell? ⟨g, i, none⟩ = W.cell? ⟨g, i, none⟩ := by
  rw [World.cell?_setCell_far _ _ _ _ h, World.cell?_setCell_far _ _ _ _ h, World.cell?_setCell_far _ _ _ _ h, World.cell?_setCell_far _ _ _ _ h, World.cell?_setCell_far _ _ _ _ h]
theorem far5 {W : World} {b g i : Nat} {a0 a1 a2 a3 a4 : Value} (h : b ≠ g) : (World.drew (((((W.setCell ⟨b, 0, none⟩ a0).setCell ⟨b, 1, none⟩ a1).setCell ⟨b, 2, none⟩ a2).setCell ⟨b, 3, none⟩ a3).setCell ⟨b, 4, none⟩ a4)).cell? ⟨g, i, none⟩ = W.cell? ⟨g, i, none⟩ := (dcell_ _ _).trans (far5n h)
theorem rrP_bad {T : List (List Bool)} {mg st : Int} {x1 x2 : Bool} {a b : Ctl} {c : Int} (h : codeC T mg st [a, b] = c) (hc : c ≠ 0) : rrP T mg st x1 x2 a b = ((0, 0, 0, 0, 0), (0, 0, 0, 0, 0)) := by simp [rrP, h, hc]
theorem rrP_ok {T : List (List Bool)} {mg st : Int} {x1 x2 : Bool} {a b : Ctl} (h : codeC T mg st [a, b] = 0) : rrP T mg st x1 x2 a b = roundC T mg st x1 x2 (a, b) := by simp [rrP, h]

set_option maxRecDepth 100000 in
set_option maxHeartbeats 4000000 in
theorem specRunRound_any (A : Option Addr) (n c lo hi : Nat) (T : List (List Bool)) (hm : n ≤ maxLen) (mg st : Int) (a b : Ctl) (x1 x2 : Bool) (w : World) (hr : RdSS w lo hi A n (rrBool T)) (hhi : hi ≤ w.heap.size) :
    Calls Try.prog 30 #[.slice A n c, .agg #[.int .i64 mg, .int .i64 st], .agg #[.int .i64 a.1, .int .i64 a.2.1, .int .i64 a.2.2.1, .int .i64 a.2.2.2.1, .int .i64 a.2.2.2.2], .agg #[.int .i64 b.1, .int .i64 b.2.1, .int .i64 b.2.2.1, .int .i64 b.2.2.2.1, .int .i64 b.2.2.2.2], .agg #[.bool x1, .bool x2]] w fun e w' => e = .returned (.tuple #[.agg #[.int .i64 (rrP T mg st x1 x2 a b).1.1, .int .i64 (rrP T mg st x1 x2 a b).1.2.1, .int .i64 (rrP T mg st x1 x2 a b).1.2.2.1, .int .i64 (rrP T mg st x1 x2 a b).1.2.2.2.1, .int .i64 (rrP T mg st x1 x2 a b).1.2.2.2.2], .agg #[.int .i64 (rrP T mg st x1 x2 a b).2.1, .int .i64 (rrP T mg st x1 x2 a b).2.2.1, .int .i64 (rrP T mg st x1 x2 a b).2.2.2.1, .int .i64 (rrP T mg st x1 x2 a b).2.2.2.2.1, .int .i64 (rrP T mg st x1 x2 a b).2.2.2.2.2], .int .i64 (codeC T mg st [a, b])]) ∧ Below w.heap.size w w' := by
  obtain ⟨cc, hcc⟩ : ∃ cc, codeC T mg st [a, b] = cc := ⟨_, rfl⟩
  rw [hcc]
  have HC := hide hcc
  clear hcc
  by_cases hz : cc = 0
  · skip
    subst hz
    obtain ⟨e0, e1, e2⟩ := codeC_zero HC.out
    have HV := hide (rrP_ok (x1 := x1) (x2 := x2) HC.out)
    have E0 := hide e0
    have E1 := hide e1
    have EA := hide (e2 a (by simp))
    have EB := hide (e2 b (by simp))
    clear e0 e1 e2
    go_enter Try.func30, Try.ntmps30
    go_wp2_with fail
    obtain ⟨W0, hW0⟩ : ∃ W0 : World, W0 = (((((((w.alloc (.cells #[.int .i64 mg, .int .i64 st] 51)).alloc (.cells #[.int .i64 a.1, .int .i64 a.2.1, .int .i64 a.2.2.1, .int .i64 a.2.2.2.1, .int .i64 a.2.2.2.2] 53)).alloc (.cells #[.int .i64 b.1, .int .i64 b.2.1, .int .i64 b.2.2.1, .int .i64 b.2.2.2.1, .int .i64 b.2.2.2.2] 53)).alloc (.cells #[.bool x1, .bool x2] 55)).alloc (.cells #[.int .i64 0, .int .i64 0, .int .i64 0, .int .i64 0, .int .i64 0] 53)).alloc (.cells #[.int .i64 0, .int .i64 0, .int .i64 0, .int .i64 0, .int .i64 0] 53)).alloc (.cells #[.int .i64 a.1, .int .i64 a.2.1, .int .i64 a.2.2.1, .int .i64 a.2.2.2.1, .int .i64 a.2.2.2.2, .int .i64 b.1, .int .i64 b.2.1, .int .i64 b.2.2.1, .int .i64 b.2.2.2.1, .int .i64 b.2.2.2.2] 53)) := ⟨_, rfl⟩
    rw [← hW0]
    have bR : Box W0 (w.heap.size) [.int .i64 mg, .int .i64 st] := by rw [hW0]; exact ((((((box_at _ _ _ _ (by simp)).alloc (by simp) _).alloc (by simp; try omega) _).alloc (by simp; try omega) _).alloc (by simp; try omega) _).alloc (by simp; try omega) _).alloc (by simp; try omega) _
    have bA : Box W0 (w.heap.size + 1) [.int .i64 a.1, .int .i64 a.2.1, .int .i64 a.2.2.1, .int .i64 a.2.2.2.1, .int .i64 a.2.2.2.2] := by rw [hW0]; exact (((((box_at _ _ _ _ (by simp)).alloc (by simp) _).alloc (by simp; try omega) _).alloc (by simp; try omega) _).alloc (by simp; try omega) _).alloc (by simp; try omega) _
    have bB : Box W0 (w.heap.size + 2) [.int .i64 b.1, .int .i64 b.2.1, .int .i64 b.2.2.1, .int .i64 b.2.2.2.1, .int .i64 b.2.2.2.2] := by rw [hW0]; exact ((((box_at _ _ _ _ (by simp)).alloc (by simp) _).alloc (by simp; try omega) _).alloc (by simp; try omega) _).alloc (by simp; try omega) _
    have bX : Box W0 (w.heap.size + 3) [.bool x1, .bool x2] := by rw [hW0]; exact (((box_at _ _ _ _ (by simp)).alloc (by simp) _).alloc (by simp; try omega) _).alloc (by simp; try omega) _
    have bP : Box W0 (w.heap.size + 4) [.int .i64 0, .int .i64 0, .int .i64 0, .int .i64 0, .int .i64 0] := by rw [hW0]; exact ((box_at _ _ _ _ (by simp)).alloc (by simp) _).alloc (by simp; try omega) _
    have bPf : Fz W0 (w.heap.size + 4) := by rw [hW0]; exact ((fz_at _ _ _ _ (by simp)).alloc (by simp) _).alloc (by simp; try omega) _
    have bQ : Box W0 (w.heap.size + 5) [.int .i64 0, .int .i64 0, .int .i64 0, .int .i64 0, .int .i64 0] := by rw [hW0]; exact (box_at _ _ _ _ (by simp)).alloc (by simp) _
    have bQf : Fz W0 (w.heap.size + 5) := by rw [hW0]; exact (fz_at _ _ _ _ (by simp)).alloc (by simp) _
    have bL : Box W0 (w.heap.size + 6) [.int .i64 a.1, .int .i64 a.2.1, .int .i64 a.2.2.1, .int .i64 a.2.2.2.1, .int .i64 a.2.2.2.2, .int .i64 b.1, .int .i64 b.2.1, .int .i64 b.2.2.1, .int .i64 b.2.2.2.1, .int .i64 b.2.2.2.2] := by rw [hW0]; exact box_at _ _ _ _ (by simp)
    have hL : Rd W0 (w.heap.size + 6) (w.heap.size + 6 + 1) 5 (some ⟨w.heap.size + 6, 0, none⟩) 2 (rCtl [a, b]) := by rw [hW0]; exact rd_new _ _ _ 2 5 rfl _ rfl _ (by simp)
    have hB : Below w.heap.size w W0 := by rw [hW0]; exact (by repeat (first | exact Below.refl _ _ | refine Below.drew ?_ | refine Below.alloc ?_ (by first | (simp; done) | (simp; omega)) _))
    have hs0 : w.heap.size + 7 ≤ W0.heap.size := by rw [hW0]; first | (simp; done) | (simp; omega)
    clear hW0
    replace hr := hr.below hB (by omega)
    refine (l18Code_any A n c lo hi T hm mg st _ 2 2 (w.heap.size + 6) (w.heap.size + 6 + 1) [a, b] rfl (by omega) _ hr (by omega) hL (by omega)).mono ?_
    rintro e w1 ⟨rfl, hb⟩
    have hbb : Below W0.heap.size W0 w1 := Below.trans (by repeat (first | exact Below.refl _ _ | refine Below.drew ?_ | refine Below.alloc ?_ (by first | (simp; done) | (simp; omega)) _)) (Below.mono hb (by simp))
    clear hb
    have hs1 := hbb.size
    replace hr := hr.below hbb (by omega)
    replace hL := hL.below hbb (by omega)
    replace bR := bR.below hbb (by omega)
    replace bA := bA.below hbb (by omega)
    replace bB := bB.below hbb (by omega)
    replace bX := bX.below hbb (by omega)
    replace bP := bP.below hbb (by omega)
    replace bPf := bPf.below hbb (by omega)
    replace bQ := bQ.below hbb (by omega)
    replace bQf := bQf.below hbb (by omega)
    replace bL := bL.below hbb (by omega)
    replace hB := hB.trans (hbb.mono (by omega))
    clear hbb
    rw [HC.out]
    clear hL
    clear bL
    have nbR : w.heap.size < w1.heap.size := by omega
    have lbR_0 := bR 0 _ rfl
    have lbR_1 := bR 1 _ rfl
    have nbA : w.heap.size + 1 < w1.heap.size := by omega
    have lbA_0 := bA 0 _ rfl
    have lbA_1 := bA 1 _ rfl
    have lbA_2 := bA 2 _ rfl
    have lbA_3 := bA 3 _ rfl
    have lbA_4 := bA 4 _ rfl
    have nbB : w.heap.size + 2 < w1.heap.size := by omega
    have lbB_0 := bB 0 _ rfl
    have lbB_1 := bB 1 _ rfl
    have lbB_2 := bB 2 _ rfl
    have lbB_3 := bB 3 _ rfl
    have lbB_4 := bB 4 _ rfl
    have nbX : w.heap.size + 3 < w1.heap.size := by omega
    have lbX_0 := bX 0 _ rfl
    have lbX_1 := bX 1 _ rfl
    have nbP : w.heap.size + 4 < w1.heap.size := by omega
    have lbP_0 := bP 0 _ rfl
    have lbP_1 := bP 1 _ rfl
    have lbP_2 := bP 2 _ rfl
    have lbP_3 := bP 3 _ rfl
    have lbP_4 := bP 4 _ rfl
    have lfbP_0 := bPf 0
    have lfbP_1 := bPf 1
    have lfbP_2 := bPf 2
    have lfbP_3 := bPf 3
    have lfbP_4 := bPf 4
    have nbQ : w.heap.size + 5 < w1.heap.size := by omega
    have lbQ_0 := bQ 0 _ rfl
    have lbQ_1 := bQ 1 _ rfl
    have lbQ_2 := bQ 2 _ rfl
    have lbQ_3 := bQ 3 _ rfl
    have lbQ_4 := bQ 4 _ rfl
    have lfbQ_0 := bQf 0
    have lfbQ_1 := bQf 1
    have lfbQ_2 := bQf 2
    have lfbQ_3 := bQf 3
    have lfbQ_4 := bQf 4
    go_wp2_with fail
    refine (l18Round_any A n c lo hi T E0.out mg st a b x1 x2 E1.out EA.out EB.out _ hr (by omega)).mono ?_
    rintro e w2 ⟨rfl, hb⟩
    have hbb : Below w1.heap.size w1 w2 := Below.trans (by repeat (first | exact Below.refl _ _ | refine Below.drew ?_ | refine Below.alloc ?_ (by first | (simp; done) | (simp; omega)) _)) (Below.mono hb (by simp))
    clear hb
    have hs2 := hbb.size
    replace hr := hr.below hbb (by omega)
    replace bR := bR.below hbb (by omega)
    replace bA := bA.below hbb (by omega)
    replace bB := bB.below hbb (by omega)
    replace bX := bX.below hbb (by omega)
    replace bP := bP.below hbb (by omega)
    replace bPf := bPf.below hbb (by omega)
    replace bQ := bQ.below hbb (by omega)
    replace bQf := bQf.below hbb (by omega)
    replace hB := hB.trans (hbb.mono (by omega))
    clear hbb
    clear nbR lbR_0 lbR_1 nbA lbA_0 lbA_1 lbA_2 lbA_3 lbA_4 nbB lbB_0 lbB_1 lbB_2 lbB_3 lbB_4 nbX lbX_0 lbX_1 nbP lbP_0 lbP_1 lbP_2 lbP_3 lbP_4 lfbP_0 lfbP_1 lfbP_2 lfbP_3 lfbP_4 nbQ lbQ_0 lbQ_1 lbQ_2 lbQ_3 lbQ_4 lfbQ_0 lfbQ_1 lfbQ_2 lfbQ_3 lfbQ_4
    obtain ⟨rc, hrc⟩ : ∃ rc, roundC T mg st x1 x2 (a, b) = rc := ⟨_, rfl⟩
    rw [hrc] at HV ⊢
    clear hrc
    obtain ⟨⟨p0, p1, p2, p3, p4⟩, ⟨q0, q1, q2, q3, q4⟩⟩ := rc
    clear bR bA bB bX
    go_upto_region 5 with fail
    obtain ⟨w3, hW⟩ : ∃ W : World, W = ((w2.alloc (.cells #[.int .i64 p0, .int .i64 p1, .int .i64 p2, .int .i64 p3, .int .i64 p4] 53)).alloc (.cells #[.int .i64 q0, .int .i64 q1, .int .i64 q2, .int .i64 q3, .int .i64 q4] 53)) := ⟨_, rfl⟩
    rw [← hW]
    have bC : Box w3 (w2.heap.size) [.int .i64 p0, .int .i64 p1, .int .i64 p2, .int .i64 p3, .int .i64 p4] := by rw [hW]; exact (box_at _ _ _ _ (by simp)).alloc (by simp) _
    have bD : Box w3 (w2.heap.size + 1) [.int .i64 q0, .int .i64 q1, .int .i64 q2, .int .i64 q3, .int .i64 q4] := by rw [hW]; exact box_at _ _ _ _ (by simp)
    have hbb : Below w2.heap.size w2 w3 := by rw [hW]; exact (by repeat (first | exact Below.refl _ _ | refine Below.drew ?_ | refine Below.alloc ?_ (by first | (simp; done) | (simp; omega)) _))
    have hs3 : w2.heap.size + 2 ≤ w3.heap.size := by rw [hW]; first | (simp; done) | (simp; omega)
    clear hW
    replace hr := hr.below hbb (by omega)
    replace bP := bP.below hbb (by omega)
    replace bPf := bPf.below hbb (by omega)
    replace bQ := bQ.below hbb (by omega)
    replace bQf := bQf.below hbb (by omega)
    replace hB := hB.trans (hbb.mono (by omega))
    clear hbb
    clear E0 E1 EA EB hr hhi
    -- HERE
    have nbC : w2.heap.size < w3.heap.size := by omega
    have lbC_0 := bC 0 _ rfl
    have lbC_1 := bC 1 _ rfl
    have lbC_2 := bC 2 _ rfl
    have lbC_3 := bC 3 _ rfl
    have lbC_4 := bC 4 _ rfl
    have nbD : w2.heap.size + 1 < w3.heap.size := by omega
    have lbD_0 := bD 0 _ rfl
    have lbD_1 := bD 1 _ rfl
    have lbD_2 := bD 2 _ rfl
    have lbD_3 := bD 3 _ rfl
    have lbD_4 := bD 4 _ rfl
    have nbP : w.heap.size + 4 < w3.heap.size := by omega
    have lbP_0 := bP 0 _ rfl
    have lbP_1 := bP 1 _ rfl
    have lbP_2 := bP 2 _ rfl
    have lbP_3 := bP 3 _ rfl
    have lbP_4 := bP 4 _ rfl
    have lfbP_0 := bPf 0
    have lfbP_1 := bPf 1
    have lfbP_2 := bPf 2
    have lfbP_3 := bPf 3
    have lfbP_4 := bPf 4
    have nbQ : w.heap.size + 5 < w3.heap.size := by omega
    have lbQ_0 := bQ 0 _ rfl
    have lbQ_1 := bQ 1 _ rfl
    have lbQ_2 := bQ 2 _ rfl
    have lbQ_3 := bQ 3 _ rfl
    have lbQ_4 := bQ 4 _ rfl
    have lfbQ_0 := bQf 0
    have lfbQ_1 := bQf 1
    have lfbQ_2 := bQf 2
    have lfbQ_3 := bQf 3
    have lfbQ_4 := bQf 4
    go_wp2_with fail
    have HS : Hid (w3.cell? ⟨w2.heap.size, 0, none⟩ = some (.int .i64 p0) ∧ w3.cell? ⟨w2.heap.size, 1, none⟩ = some (.int .i64 p1) ∧ w3.cell? ⟨w2.heap.size, 2, none⟩ = some (.int .i64 p2) ∧ w3.cell? ⟨w2.heap.size, 3, none⟩ = some (.int .i64 p3) ∧ w3.cell? ⟨w2.heap.size, 4, none⟩ = some (.int .i64 p4) ∧ w3.cell? ⟨w2.heap.size + 1, 0, none⟩ = some (.int .i64 q0) ∧ w3.cell? ⟨w2.heap.size + 1, 1, none⟩ = some (.int .i64 q1) ∧ w3.cell? ⟨w2.heap.size + 1, 2, none⟩ = some (.int .i64 q2) ∧ w3.cell? ⟨w2.heap.size + 1, 3, none⟩ = some (.int .i64 q3) ∧ w3.cell? ⟨w2.heap.size + 1, 4, none⟩ = some (.int .i64 q4)) := hide ⟨bC 0 _ rfl, bC 1 _ rfl, bC 2 _ rfl, bC 3 _ rfl, bC 4 _ rfl, bD 0 _ rfl, bD 1 _ rfl, bD 2 _ rfl, bD 3 _ rfl, bD 4 _ rfl⟩
    have HD : Hid ((World.drew w3).cell? ⟨w2.heap.size, 0, none⟩ = some (.int .i64 p0) ∧ (World.drew w3).cell? ⟨w2.heap.size, 1, none⟩ = some (.int .i64 p1) ∧ (World.drew w3).cell? ⟨w2.heap.size, 2, none⟩ = some (.int .i64 p2) ∧ (World.drew w3).cell? ⟨w2.heap.size, 3, none⟩ = some (.int .i64 p3) ∧ (World.drew w3).cell? ⟨w2.heap.size, 4, none⟩ = some (.int .i64 p4) ∧ (World.drew w3).cell? ⟨w2.heap.size + 1, 0, none⟩ = some (.int .i64 q0) ∧ (World.drew w3).cell? ⟨w2.heap.size + 1, 1, none⟩ = some (.int .i64 q1) ∧ (World.drew w3).cell? ⟨w2.heap.size + 1, 2, none⟩ = some (.int .i64 q2) ∧ (World.drew w3).cell? ⟨w2.heap.size + 1, 3, none⟩ = some (.int .i64 q3) ∧ (World.drew w3).cell? ⟨w2.heap.size + 1, 4, none⟩ = some (.int .i64 q4)) := HS
    go_region_held3 (fun W => W.cell? ⟨w2.heap.size, 0, none⟩ = some (.int .i64 p0) ∧ W.cell? ⟨w2.heap.size, 1, none⟩ = some (.int .i64 p1) ∧ W.cell? ⟨w2.heap.size, 2, none⟩ = some (.int .i64 p2) ∧ W.cell? ⟨w2.heap.size, 3, none⟩ = some (.int .i64 p3) ∧ W.cell? ⟨w2.heap.size, 4, none⟩ = some (.int .i64 p4) ∧ W.cell? ⟨w2.heap.size + 1, 0, none⟩ = some (.int .i64 q0) ∧ W.cell? ⟨w2.heap.size + 1, 1, none⟩ = some (.int .i64 q1) ∧ W.cell? ⟨w2.heap.size + 1, 2, none⟩ = some (.int .i64 q2) ∧ W.cell? ⟨w2.heap.size + 1, 3, none⟩ = some (.int .i64 q3) ∧ W.cell? ⟨w2.heap.size + 1, 4, none⟩ = some (.int .i64 q4)) (first | (with_reducible exact HS.out) | (with_reducible exact HD.out) | ((with_reducible refine ⟨?_, ?_, ?_, ?_, ?_, ?_, ?_, ?_, ?_, ?_⟩) <;> ((repeat (first | (with_reducible refine (far5 (by omega)).trans ?_) | (with_reducible refine (far5n (by omega)).trans ?_))); first | (with_reducible exact HS.out.1) | (with_reducible exact HS.out.2.1) | (with_reducible exact HS.out.2.2.1) | (with_reducible exact HS.out.2.2.2.1) | (with_reducible exact HS.out.2.2.2.2.1) | (with_reducible exact HS.out.2.2.2.2.2.1) | (with_reducible exact HS.out.2.2.2.2.2.2.1) | (with_reducible exact HS.out.2.2.2.2.2.2.2.1) | (with_reducible exact HS.out.2.2.2.2.2.2.2.2.1) | (with_reducible exact HS.out.2.2.2.2.2.2.2.2.2)))) (fail)
    -- THERE
    all_goals
      go_wp2_with fail
      refine bodyPost_ret (v := .tuple #[.agg #[.int .i64 p0, .int .i64 p1, .int .i64 p2, .int .i64 p3, .int .i64 p4], .agg #[.int .i64 q0, .int .i64 q1, .int .i64 q2, .int .i64 q3, .int .i64 q4], .int .i64 0]) (by simp [results, Try.results30, go_sem, lbP_0, lbP_1, lbP_2, lbP_3, lbP_4, lbQ_0, lbQ_1, lbQ_2, lbQ_3, lbQ_4]) rfl ⟨by rw [HV.out], ?_⟩
      repeat (first | with_reducible refine Below.drew ?_ | with_reducible refine Below.setCell ?_ (by simp; try omega) _)
      exact hB
  · skip
    have HV := hide (rrP_bad (x1 := x1) (x2 := x2) HC.out hz)
    have hz2 : (cc == 0) = false := by simpa using hz
    have hz3 : (cc != 0) = true := by simpa using hz
    go_enter Try.func30, Try.ntmps30
    go_wp2_with fail
    obtain ⟨W0, hW0⟩ : ∃ W0 : World, W0 = (((((((w.alloc (.cells #[.int .i64 mg, .int .i64 st] 51)).alloc (.cells #[.int .i64 a.1, .int .i64 a.2.1, .int .i64 a.2.2.1, .int .i64 a.2.2.2.1, .int .i64 a.2.2.2.2] 53)).alloc (.cells #[.int .i64 b.1, .int .i64 b.2.1, .int .i64 b.2.2.1, .int .i64 b.2.2.2.1, .int .i64 b.2.2.2.2] 53)).alloc (.cells #[.bool x1, .bool x2] 55)).alloc (.cells #[.int .i64 0, .int .i64 0, .int .i64 0, .int .i64 0, .int .i64 0] 53)).alloc (.cells #[.int .i64 0, .int .i64 0, .int .i64 0, .int .i64 0, .int .i64 0] 53)).alloc (.cells #[.int .i64 a.1, .int .i64 a.2.1, .int .i64 a.2.2.1, .int .i64 a.2.2.2.1, .int .i64 a.2.2.2.2, .int .i64 b.1, .int .i64 b.2.1, .int .i64 b.2.2.1, .int .i64 b.2.2.2.1, .int .i64 b.2.2.2.2] 53)) := ⟨_, rfl⟩
    rw [← hW0]
    have bR : Box W0 (w.heap.size) [.int .i64 mg, .int .i64 st] := by rw [hW0]; exact ((((((box_at _ _ _ _ (by simp)).alloc (by simp) _).alloc (by simp; try omega) _).alloc (by simp; try omega) _).alloc (by simp; try omega) _).alloc (by simp; try omega) _).alloc (by simp; try omega) _
    have bA : Box W0 (w.heap.size + 1) [.int .i64 a.1, .int .i64 a.2.1, .int .i64 a.2.2.1, .int .i64 a.2.2.2.1, .int .i64 a.2.2.2.2] := by rw [hW0]; exact (((((box_at _ _ _ _ (by simp)).alloc (by simp) _).alloc (by simp; try omega) _).alloc (by simp; try omega) _).alloc (by simp; try omega) _).alloc (by simp; try omega) _
    have bB : Box W0 (w.heap.size + 2) [.int .i64 b.1, .int .i64 b.2.1, .int .i64 b.2.2.1, .int .i64 b.2.2.2.1, .int .i64 b.2.2.2.2] := by rw [hW0]; exact ((((box_at _ _ _ _ (by simp)).alloc (by simp) _).alloc (by simp; try omega) _).alloc (by simp; try omega) _).alloc (by simp; try omega) _
    have bX : Box W0 (w.heap.size + 3) [.bool x1, .bool x2] := by rw [hW0]; exact (((box_at _ _ _ _ (by simp)).alloc (by simp) _).alloc (by simp; try omega) _).alloc (by simp; try omega) _
    have bP : Box W0 (w.heap.size + 4) [.int .i64 0, .int .i64 0, .int .i64 0, .int .i64 0, .int .i64 0] := by rw [hW0]; exact ((box_at _ _ _ _ (by simp)).alloc (by simp) _).alloc (by simp; try omega) _
    have bPf : Fz W0 (w.heap.size + 4) := by rw [hW0]; exact ((fz_at _ _ _ _ (by simp)).alloc (by simp) _).alloc (by simp; try omega) _
    have bQ : Box W0 (w.heap.size + 5) [.int .i64 0, .int .i64 0, .int .i64 0, .int .i64 0, .int .i64 0] := by rw [hW0]; exact (box_at _ _ _ _ (by simp)).alloc (by simp) _
    have bQf : Fz W0 (w.heap.size + 5) := by rw [hW0]; exact (fz_at _ _ _ _ (by simp)).alloc (by simp) _
    have bL : Box W0 (w.heap.size + 6) [.int .i64 a.1, .int .i64 a.2.1, .int .i64 a.2.2.1, .int .i64 a.2.2.2.1, .int .i64 a.2.2.2.2, .int .i64 b.1, .int .i64 b.2.1, .int .i64 b.2.2.1, .int .i64 b.2.2.2.1, .int .i64 b.2.2.2.2] := by rw [hW0]; exact box_at _ _ _ _ (by simp)
    have hL : Rd W0 (w.heap.size + 6) (w.heap.size + 6 + 1) 5 (some ⟨w.heap.size + 6, 0, none⟩) 2 (rCtl [a, b]) := by rw [hW0]; exact rd_new _ _ _ 2 5 rfl _ rfl _ (by simp)
    have hB : Below w.heap.size w W0 := by rw [hW0]; exact (by repeat (first | exact Below.refl _ _ | refine Below.drew ?_ | refine Below.alloc ?_ (by first | (simp; done) | (simp; omega)) _))
    have hs0 : w.heap.size + 7 ≤ W0.heap.size := by rw [hW0]; first | (simp; done) | (simp; omega)
    clear hW0
    replace hr := hr.below hB (by omega)
    refine (l18Code_any A n c lo hi T hm mg st _ 2 2 (w.heap.size + 6) (w.heap.size + 6 + 1) [a, b] rfl (by omega) _ hr (by omega) hL (by omega)).mono ?_
    rintro e w1 ⟨rfl, hb⟩
    have hbb : Below W0.heap.size W0 w1 := Below.trans (by repeat (first | exact Below.refl _ _ | refine Below.drew ?_ | refine Below.alloc ?_ (by first | (simp; done) | (simp; omega)) _)) (Below.mono hb (by simp))
    clear hb
    have hs1 := hbb.size
    replace hr := hr.below hbb (by omega)
    replace hL := hL.below hbb (by omega)
    replace bR := bR.below hbb (by omega)
    replace bA := bA.below hbb (by omega)
    replace bB := bB.below hbb (by omega)
    replace bX := bX.below hbb (by omega)
    replace bP := bP.below hbb (by omega)
    replace bPf := bPf.below hbb (by omega)
    replace bQ := bQ.below hbb (by omega)
    replace bQf := bQf.below hbb (by omega)
    replace bL := bL.below hbb (by omega)
    replace hB := hB.trans (hbb.mono (by omega))
    clear hbb
    rw [HC.out]
    clear hL
    clear bL
    have nbP : w.heap.size + 4 < w1.heap.size := by omega
    have lbP_0 := bP 0 _ rfl
    have lbP_1 := bP 1 _ rfl
    have lbP_2 := bP 2 _ rfl
    have lbP_3 := bP 3 _ rfl
    have lbP_4 := bP 4 _ rfl
    have lfbP_0 := bPf 0
    have lfbP_1 := bPf 1
    have lfbP_2 := bPf 2
    have lfbP_3 := bPf 3
    have lfbP_4 := bPf 4
    have nbQ : w.heap.size + 5 < w1.heap.size := by omega
    have lbQ_0 := bQ 0 _ rfl
    have lbQ_1 := bQ 1 _ rfl
    have lbQ_2 := bQ 2 _ rfl
    have lbQ_3 := bQ 3 _ rfl
    have lbQ_4 := bQ 4 _ rfl
    have lfbQ_0 := bQf 0
    have lfbQ_1 := bQf 1
    have lfbQ_2 := bQf 2
    have lfbQ_3 := bQf 3
    have lfbQ_4 := bQf 4
    go_wp2_with fail
    refine bodyPost_ret (v := .tuple #[.agg #[.int .i64 0, .int .i64 0, .int .i64 0, .int .i64 0, .int .i64 0], .agg #[.int .i64 0, .int .i64 0, .int .i64 0, .int .i64 0, .int .i64 0], .int .i64 cc]) (by simp [results, Try.results30, go_sem, lbP_0, lbP_1, lbP_2, lbP_3, lbP_4, lbQ_0, lbQ_1, lbQ_2, lbQ_3, lbQ_4]) rfl ⟨by rw [HV.out], ?_⟩
    repeat (first | with_reducible refine Below.drew ?_ | with_reducible refine Below.setCell ?_ (by simp; try omega) _)
    exact hB

set_option maxRecDepth 100000 in
set_option maxHeartbeats 4000000 in
theorem implRunRound_any (A : Option Addr) (n c lo hi : Nat) (T : List (List Bool)) (hm : n ≤ maxLen) (mg st : Int) (a b : Ctl) (x1 x2 : Bool) (w : World) (hr : RdSS w lo hi A n (rrBool T)) (hhi : hi ≤ w.heap.size) :
    Calls Try.prog 29 #[.slice A n c, .agg #[.int .i64 mg, .int .i64 st], .agg #[.int .i64 a.1, .int .i64 a.2.1, .int .i64 a.2.2.1, .int .i64 a.2.2.2.1, .int .i64 a.2.2.2.2], .agg #[.int .i64 b.1, .int .i64 b.2.1, .int .i64 b.2.2.1, .int .i64 b.2.2.2.1, .int .i64 b.2.2.2.2], .agg #[.bool x1, .bool x2]] w fun e w' => e = .returned (.tuple #[.agg #[.int .i64 (rrP T mg st x1 x2 a b).1.1, .int .i64 (rrP T mg st x1 x2 a b).1.2.1, .int .i64 (rrP T mg st x1 x2 a b).1.2.2.1, .int .i64 (rrP T mg st x1 x2 a b).1.2.2.2.1, .int .i64 (rrP T mg st x1 x2 a b).1.2.2.2.2], .agg #[.int .i64 (rrP T mg st x1 x2 a b).2.1, .int .i64 (rrP T mg st x1 x2 a b).2.2.1, .int .i64 (rrP T mg st x1 x2 a b).2.2.2.1, .int .i64 (rrP T mg st x1 x2 a b).2.2.2.2.1, .int .i64 (rrP T mg st x1 x2 a b).2.2.2.2.2], .int .i64 (codeC T mg st [a, b])]) ∧ Below w.heap.size w w' := by
  obtain ⟨cc, hcc⟩ : ∃ cc, codeC T mg st [a, b] = cc := ⟨_, rfl⟩
  rw [hcc]
  have HC := hide hcc
  clear hcc
  by_cases hz : cc = 0
  · skip
    subst hz
    obtain ⟨e0, e1, e2⟩ := codeC_zero HC.out
    have HV := hide (rrP_ok (x1 := x1) (x2 := x2) HC.out)
    have E0 := hide e0
    have E1 := hide e1
    have EA := hide (e2 a (by simp))
    have EB := hide (e2 b (by simp))
    clear e0 e1 e2
    go_enter Try.func29, Try.ntmps29
    go_wp2_with fail
    obtain ⟨W0, hW0⟩ : ∃ W0 : World, W0 = (((((((w.alloc (.cells #[.int .i64 mg, .int .i64 st] 51)).alloc (.cells #[.int .i64 a.1, .int .i64 a.2.1, .int .i64 a.2.2.1, .int .i64 a.2.2.2.1, .int .i64 a.2.2.2.2] 53)).alloc (.cells #[.int .i64 b.1, .int .i64 b.2.1, .int .i64 b.2.2.1, .int .i64 b.2.2.2.1, .int .i64 b.2.2.2.2] 53)).alloc (.cells #[.bool x1, .bool x2] 55)).alloc (.cells #[.int .i64 0, .int .i64 0, .int .i64 0, .int .i64 0, .int .i64 0] 53)).alloc (.cells #[.int .i64 0, .int .i64 0, .int .i64 0, .int .i64 0, .int .i64 0] 53)).alloc (.cells #[.int .i64 a.1, .int .i64 a.2.1, .int .i64 a.2.2.1, .int .i64 a.2.2.2.1, .int .i64 a.2.2.2.2, .int .i64 b.1, .int .i64 b.2.1, .int .i64 b.2.2.1, .int .i64 b.2.2.2.1, .int .i64 b.2.2.2.2] 53)) := ⟨_, rfl⟩
    rw [← hW0]
    have bR : Box W0 (w.heap.size) [.int .i64 mg, .int .i64 st] := by rw [hW0]; exact ((((((box_at _ _ _ _ (by simp)).alloc (by simp) _).alloc (by simp; try omega) _).alloc (by simp; try omega) _).alloc (by simp; try omega) _).alloc (by simp; try omega) _).alloc (by simp; try omega) _
    have bA : Box W0 (w.heap.size + 1) [.int .i64 a.1, .int .i64 a.2.1, .int .i64 a.2.2.1, .int .i64 a.2.2.2.1, .int .i64 a.2.2.2.2] := by rw [hW0]; exact (((((box_at _ _ _ _ (by simp)).alloc (by simp) _).alloc (by simp; try omega) _).alloc (by simp; try omega) _).alloc (by simp; try omega) _).alloc (by simp; try omega) _
    have bAf : Fz W0 (w.heap.size + 1) := by rw [hW0]; exact (((((fz_at _ _ _ _ (by simp)).alloc (by simp) _).alloc (by simp; try omega) _).alloc (by simp; try omega) _).alloc (by simp; try omega) _).alloc (by simp; try omega) _
    have bB : Box W0 (w.heap.size + 2) [.int .i64 b.1, .int .i64 b.2.1, .int .i64 b.2.2.1, .int .i64 b.2.2.2.1, .int .i64 b.2.2.2.2] := by rw [hW0]; exact ((((box_at _ _ _ _ (by simp)).alloc (by simp) _).alloc (by simp; try omega) _).alloc (by simp; try omega) _).alloc (by simp; try omega) _
    have bBf : Fz W0 (w.heap.size + 2) := by rw [hW0]; exact ((((fz_at _ _ _ _ (by simp)).alloc (by simp) _).alloc (by simp; try omega) _).alloc (by simp; try omega) _).alloc (by simp; try omega) _
    have bX : Box W0 (w.heap.size + 3) [.bool x1, .bool x2] := by rw [hW0]; exact (((box_at _ _ _ _ (by simp)).alloc (by simp) _).alloc (by simp; try omega) _).alloc (by simp; try omega) _
    have bP : Box W0 (w.heap.size + 4) [.int .i64 0, .int .i64 0, .int .i64 0, .int .i64 0, .int .i64 0] := by rw [hW0]; exact ((box_at _ _ _ _ (by simp)).alloc (by simp) _).alloc (by simp; try omega) _
    have bPf : Fz W0 (w.heap.size + 4) := by rw [hW0]; exact ((fz_at _ _ _ _ (by simp)).alloc (by simp) _).alloc (by simp; try omega) _
    have bQ : Box W0 (w.heap.size + 5) [.int .i64 0, .int .i64 0, .int .i64 0, .int .i64 0, .int .i64 0] := by rw [hW0]; exact (box_at _ _ _ _ (by simp)).alloc (by simp) _
    have bQf : Fz W0 (w.heap.size + 5) := by rw [hW0]; exact (fz_at _ _ _ _ (by simp)).alloc (by simp) _
    have bL : Box W0 (w.heap.size + 6) [.int .i64 a.1, .int .i64 a.2.1, .int .i64 a.2.2.1, .int .i64 a.2.2.2.1, .int .i64 a.2.2.2.2, .int .i64 b.1, .int .i64 b.2.1, .int .i64 b.2.2.1, .int .i64 b.2.2.2.1, .int .i64 b.2.2.2.2] := by rw [hW0]; exact box_at _ _ _ _ (by simp)
    have hL : Rd W0 (w.heap.size + 6) (w.heap.size + 6 + 1) 5 (some ⟨w.heap.size + 6, 0, none⟩) 2 (rCtl [a, b]) := by rw [hW0]; exact rd_new _ _ _ 2 5 rfl _ rfl _ (by simp)
    have hB : Below w.heap.size w W0 := by rw [hW0]; exact (by repeat (first | exact Below.refl _ _ | refine Below.drew ?_ | refine Below.alloc ?_ (by first | (simp; done) | (simp; omega)) _))
    have hs0 : w.heap.size + 7 ≤ W0.heap.size := by rw [hW0]; first | (simp; done) | (simp; omega)
    clear hW0
    replace hr := hr.below hB (by omega)
    refine (controlCode_any A n c lo hi T hm mg st _ 2 2 (w.heap.size + 6) (w.heap.size + 6 + 1) [a, b] rfl (by omega) _ hr (by omega) hL (by omega)).mono ?_
    rintro e w1 ⟨rfl, hb⟩
    have hbb : Below W0.heap.size W0 w1 := Below.trans (by repeat (first | exact Below.refl _ _ | refine Below.drew ?_ | refine Below.alloc ?_ (by first | (simp; done) | (simp; omega)) _)) (Below.mono hb (by simp))
    clear hb
    have hs1 := hbb.size
    replace hr := hr.below hbb (by omega)
    replace hL := hL.below hbb (by omega)
    replace bR := bR.below hbb (by omega)
    replace bA := bA.below hbb (by omega)
    replace bAf := bAf.below hbb (by omega)
    replace bB := bB.below hbb (by omega)
    replace bBf := bBf.below hbb (by omega)
    replace bX := bX.below hbb (by omega)
    replace bP := bP.below hbb (by omega)
    replace bPf := bPf.below hbb (by omega)
    replace bQ := bQ.below hbb (by omega)
    replace bQf := bQf.below hbb (by omega)
    replace bL := bL.below hbb (by omega)
    replace hB := hB.trans (hbb.mono (by omega))
    clear hbb
    rw [HC.out]
    clear hL
    clear bL
    have nbR : w.heap.size < w1.heap.size := by omega
    have lbR_0 := bR 0 _ rfl
    have lbR_1 := bR 1 _ rfl
    have nbA : w.heap.size + 1 < w1.heap.size := by omega
    have lbA_0 := bA 0 _ rfl
    have lbA_1 := bA 1 _ rfl
    have lbA_2 := bA 2 _ rfl
    have lbA_3 := bA 3 _ rfl
    have lbA_4 := bA 4 _ rfl
    have lfbA_0 := bAf 0
    have lfbA_1 := bAf 1
    have lfbA_2 := bAf 2
    have lfbA_3 := bAf 3
    have lfbA_4 := bAf 4
    have nbB : w.heap.size + 2 < w1.heap.size := by omega
    have lbB_0 := bB 0 _ rfl
    have lbB_1 := bB 1 _ rfl
    have lbB_2 := bB 2 _ rfl
    have lbB_3 := bB 3 _ rfl
    have lbB_4 := bB 4 _ rfl
    have lfbB_0 := bBf 0
    have lfbB_1 := bBf 1
    have lfbB_2 := bBf 2
    have lfbB_3 := bBf 3
    have lfbB_4 := bBf 4
    have nbX : w.heap.size + 3 < w1.heap.size := by omega
    have lbX_0 := bX 0 _ rfl
    have lbX_1 := bX 1 _ rfl
    have nbP : w.heap.size + 4 < w1.heap.size := by omega
    have lbP_0 := bP 0 _ rfl
    have lbP_1 := bP 1 _ rfl
    have lbP_2 := bP 2 _ rfl
    have lbP_3 := bP 3 _ rfl
    have lbP_4 := bP 4 _ rfl
    have lfbP_0 := bPf 0
    have lfbP_1 := bPf 1
    have lfbP_2 := bPf 2
    have lfbP_3 := bPf 3
    have lfbP_4 := bPf 4
    have nbQ : w.heap.size + 5 < w1.heap.size := by omega
    have lbQ_0 := bQ 0 _ rfl
    have lbQ_1 := bQ 1 _ rfl
    have lbQ_2 := bQ 2 _ rfl
    have lbQ_3 := bQ 3 _ rfl
    have lbQ_4 := bQ 4 _ rfl
    have lfbQ_0 := bQf 0
    have lfbQ_1 := bQf 1
    have lfbQ_2 := bQf 2
    have lfbQ_3 := bQf 3
    have lfbQ_4 := bQf 4
    go_wp2_with fail
    refine (implRound_any A n c lo hi T E0.out mg st a b x1 x2 E1.out EA.out EB.out _ hr (by omega)).mono ?_
    rintro e w2 ⟨rfl, hb⟩
    have hbb : Below w1.heap.size w1 w2 := Below.trans (by repeat (first | exact Below.refl _ _ | refine Below.drew ?_ | refine Below.alloc ?_ (by first | (simp; done) | (simp; omega)) _)) (Below.mono hb (by simp))
    clear hb
    have hs2 := hbb.size
    replace hr := hr.below hbb (by omega)
    replace bR := bR.below hbb (by omega)
    replace bA := bA.below hbb (by omega)
    replace bAf := bAf.below hbb (by omega)
    replace bB := bB.below hbb (by omega)
    replace bBf := bBf.below hbb (by omega)
    replace bX := bX.below hbb (by omega)
    replace bP := bP.below hbb (by omega)
    replace bPf := bPf.below hbb (by omega)
    replace bQ := bQ.below hbb (by omega)
    replace bQf := bQf.below hbb (by omega)
    replace hB := hB.trans (hbb.mono (by omega))
    clear hbb
    clear nbR lbR_0 lbR_1 nbA lbA_0 lbA_1 lbA_2 lbA_3 lbA_4 lfbA_0 lfbA_1 lfbA_2 lfbA_3 lfbA_4 nbB lbB_0 lbB_1 lbB_2 lbB_3 lbB_4 lfbB_0 lfbB_1 lfbB_2 lfbB_3 lfbB_4 nbX lbX_0 lbX_1 nbP lbP_0 lbP_1 lbP_2 lbP_3 lbP_4 lfbP_0 lfbP_1 lfbP_2 lfbP_3 lfbP_4 nbQ lbQ_0 lbQ_1 lbQ_2 lbQ_3 lbQ_4 lfbQ_0 lfbQ_1 lfbQ_2 lfbQ_3 lfbQ_4
    obtain ⟨rc, hrc⟩ : ∃ rc, roundC T mg st x1 x2 (a, b) = rc := ⟨_, rfl⟩
    rw [hrc] at HV ⊢
    clear hrc
    obtain ⟨⟨p0, p1, p2, p3, p4⟩, ⟨q0, q1, q2, q3, q4⟩⟩ := rc
    clear bR bX
    have nbA : w.heap.size + 1 < w2.heap.size := by omega
    have lbA_0 := bA 0 _ rfl
    have lbA_1 := bA 1 _ rfl
    have lbA_2 := bA 2 _ rfl
    have lbA_3 := bA 3 _ rfl
    have lbA_4 := bA 4 _ rfl
    have lfbA_0 := bAf 0
    have lfbA_1 := bAf 1
    have lfbA_2 := bAf 2
    have lfbA_3 := bAf 3
    have lfbA_4 := bAf 4
    have nbB : w.heap.size + 2 < w2.heap.size := by omega
    have lbB_0 := bB 0 _ rfl
    have lbB_1 := bB 1 _ rfl
    have lbB_2 := bB 2 _ rfl
    have lbB_3 := bB 3 _ rfl
    have lbB_4 := bB 4 _ rfl
    have lfbB_0 := bBf 0
    have lfbB_1 := bBf 1
    have lfbB_2 := bBf 2
    have lfbB_3 := bBf 3
    have lfbB_4 := bBf 4
    go_wp2_with fail
    clear nbA lbA_0 lbA_1 lbA_2 lbA_3 lbA_4 lfbA_0 lfbA_1 lfbA_2 lfbA_3 lfbA_4 nbB lbB_0 lbB_1 lbB_2 lbB_3 lbB_4 lfbB_0 lfbB_1 lfbB_2 lfbB_3 lfbB_4
    generalize hwx : World.setCell _ _ _ = w3
    replace bA : Box w3 (w.heap.size + 1) [.int .i64 p0, .int .i64 p1, .int .i64 p2, .int .i64 p3, .int .i64 p4] := (by rw [← hwx]; exact (Box.far (Box.far (Box.far (Box.far (Box.far (Box.put (Box.put (Box.put (Box.put (Box.put bA 0 _ (by simp)) 1 _ (by simp)) 2 _ (by simp)) 3 _ (by simp)) 4 _ (by simp)) _ _ (by simp; try omega)) _ _ (by simp; try omega)) _ _ (by simp; try omega)) _ _ (by simp; try omega)) _ _ (by simp; try omega)))
    replace bB : Box w3 (w.heap.size + 2) [.int .i64 q0, .int .i64 q1, .int .i64 q2, .int .i64 q3, .int .i64 q4] := (by rw [← hwx]; exact (Box.put (Box.put (Box.put (Box.put (Box.put (Box.far (Box.far (Box.far (Box.far (Box.far bB _ _ (by simp; try omega)) _ _ (by simp; try omega)) _ _ (by simp; try omega)) _ _ (by simp; try omega)) _ _ (by simp; try omega)) 0 _ (by simp)) 1 _ (by simp)) 2 _ (by simp)) 3 _ (by simp)) 4 _ (by simp)))
    replace bP : Box w3 (w.heap.size + 4) [.int .i64 0, .int .i64 0, .int .i64 0, .int .i64 0, .int .i64 0] := (by rw [← hwx]; exact (Box.far (Box.far (Box.far (Box.far (Box.far (Box.far (Box.far (Box.far (Box.far (Box.far bP _ _ (by simp; try omega)) _ _ (by simp; try omega)) _ _ (by simp; try omega)) _ _ (by simp; try omega)) _ _ (by simp; try omega)) _ _ (by simp; try omega)) _ _ (by simp; try omega)) _ _ (by simp; try omega)) _ _ (by simp; try omega)) _ _ (by simp; try omega)))
    replace bPf : Fz w3 (w.heap.size + 4) := by rw [← hwx]; exact ((((((((((bPf.set _ _).set _ _).set _ _).set _ _).set _ _).set _ _).set _ _).set _ _).set _ _).set _ _)
    replace bQ : Box w3 (w.heap.size + 5) [.int .i64 0, .int .i64 0, .int .i64 0, .int .i64 0, .int .i64 0] := (by rw [← hwx]; exact (Box.far (Box.far (Box.far (Box.far (Box.far (Box.far (Box.far (Box.far (Box.far (Box.far bQ _ _ (by simp; try omega)) _ _ (by simp; try omega)) _ _ (by simp; try omega)) _ _ (by simp; try omega)) _ _ (by simp; try omega)) _ _ (by simp; try omega)) _ _ (by simp; try omega)) _ _ (by simp; try omega)) _ _ (by simp; try omega)) _ _ (by simp; try omega)))
    replace bQf : Fz w3 (w.heap.size + 5) := by rw [← hwx]; exact ((((((((((bQf.set _ _).set _ _).set _ _).set _ _).set _ _).set _ _).set _ _).set _ _).set _ _).set _ _)
    have hs3 : w3.heap.size = w2.heap.size := by rw [← hwx]; simp
    replace hB : Below w.heap.size w w3 := by rw [← hwx]; (repeat (with_reducible refine Below.setCell ?_ (by simp; try omega) _)); exact hB
    clear hwx
    clear E0 E1 EA EB hr hhi
    -- HERE
    have nbA : w.heap.size + 1 < w3.heap.size := by omega
    have lbA_0 := bA 0 _ rfl
    have lbA_1 := bA 1 _ rfl
    have lbA_2 := bA 2 _ rfl
    have lbA_3 := bA 3 _ rfl
    have lbA_4 := bA 4 _ rfl
    have lfbA_0 := bAf 0
    have lfbA_1 := bAf 1
    have lfbA_2 := bAf 2
    have lfbA_3 := bAf 3
    have lfbA_4 := bAf 4
    have nbB : w.heap.size + 2 < w3.heap.size := by omega
    have lbB_0 := bB 0 _ rfl
    have lbB_1 := bB 1 _ rfl
    have lbB_2 := bB 2 _ rfl
    have lbB_3 := bB 3 _ rfl
    have lbB_4 := bB 4 _ rfl
    have lfbB_0 := bBf 0
    have lfbB_1 := bBf 1
    have lfbB_2 := bBf 2
    have lfbB_3 := bBf 3
    have lfbB_4 := bBf 4
    have nbP : w.heap.size + 4 < w3.heap.size := by omega
    have lbP_0 := bP 0 _ rfl
    have lbP_1 := bP 1 _ rfl
    have lbP_2 := bP 2 _ rfl
    have lbP_3 := bP 3 _ rfl
    have lbP_4 := bP 4 _ rfl
    have lfbP_0 := bPf 0
    have lfbP_1 := bPf 1
    have lfbP_2 := bPf 2
    have lfbP_3 := bPf 3
    have lfbP_4 := bPf 4
    have nbQ : w.heap.size + 5 < w3.heap.size := by omega
    have lbQ_0 := bQ 0 _ rfl
    have lbQ_1 := bQ 1 _ rfl
    have lbQ_2 := bQ 2 _ rfl
    have lbQ_3 := bQ 3 _ rfl
    have lbQ_4 := bQ 4 _ rfl
    have lfbQ_0 := bQf 0
    have lfbQ_1 := bQf 1
    have lfbQ_2 := bQf 2
    have lfbQ_3 := bQf 3
    have lfbQ_4 := bQf 4
    go_wp2_with fail
    have HS : Hid (w3.cell? ⟨w.heap.size + 1, 0, none⟩ = some (.int .i64 p0) ∧ w3.cell? ⟨w.heap.size + 1, 1, none⟩ = some (.int .i64 p1) ∧ w3.cell? ⟨w.heap.size + 1, 2, none⟩ = some (.int .i64 p2) ∧ w3.cell? ⟨w.heap.size + 1, 3, none⟩ = some (.int .i64 p3) ∧ w3.cell? ⟨w.heap.size + 1, 4, none⟩ = some (.int .i64 p4) ∧ w3.cell? ⟨w.heap.size + 2, 0, none⟩ = some (.int .i64 q0) ∧ w3.cell? ⟨w.heap.size + 2, 1, none⟩ = some (.int .i64 q1) ∧ w3.cell? ⟨w.heap.size + 2, 2, none⟩ = some (.int .i64 q2) ∧ w3.cell? ⟨w.heap.size + 2, 3, none⟩ = some (.int .i64 q3) ∧ w3.cell? ⟨w.heap.size + 2, 4, none⟩ = some (.int .i64 q4)) := hide ⟨bA 0 _ rfl, bA 1 _ rfl, bA 2 _ rfl, bA 3 _ rfl, bA 4 _ rfl, bB 0 _ rfl, bB 1 _ rfl, bB 2 _ rfl, bB 3 _ rfl, bB 4 _ rfl⟩
    have HD : Hid ((World.drew w3).cell? ⟨w.heap.size + 1, 0, none⟩ = some (.int .i64 p0) ∧ (World.drew w3).cell? ⟨w.heap.size + 1, 1, none⟩ = some (.int .i64 p1) ∧ (World.drew w3).cell? ⟨w.heap.size + 1, 2, none⟩ = some (.int .i64 p2) ∧ (World.drew w3).cell? ⟨w.heap.size + 1, 3, none⟩ = some (.int .i64 p3) ∧ (World.drew w3).cell? ⟨w.heap.size + 1, 4, none⟩ = some (.int .i64 p4) ∧ (World.drew w3).cell? ⟨w.heap.size + 2, 0, none⟩ = some (.int .i64 q0) ∧ (World.drew w3).cell? ⟨w.heap.size + 2, 1, none⟩ = some (.int .i64 q1) ∧ (World.drew w3).cell? ⟨w.heap.size + 2, 2, none⟩ = some (.int .i64 q2) ∧ (World.drew w3).cell? ⟨w.heap.size + 2, 3, none⟩ = some (.int .i64 q3) ∧ (World.drew w3).cell? ⟨w.heap.size + 2, 4, none⟩ = some (.int .i64 q4)) := HS
    go_region_held3 (fun W => W.cell? ⟨w.heap.size + 1, 0, none⟩ = some (.int .i64 p0) ∧ W.cell? ⟨w.heap.size + 1, 1, none⟩ = some (.int .i64 p1) ∧ W.cell? ⟨w.heap.size + 1, 2, none⟩ = some (.int .i64 p2) ∧ W.cell? ⟨w.heap.size + 1, 3, none⟩ = some (.int .i64 p3) ∧ W.cell? ⟨w.heap.size + 1, 4, none⟩ = some (.int .i64 p4) ∧ W.cell? ⟨w.heap.size + 2, 0, none⟩ = some (.int .i64 q0) ∧ W.cell? ⟨w.heap.size + 2, 1, none⟩ = some (.int .i64 q1) ∧ W.cell? ⟨w.heap.size + 2, 2, none⟩ = some (.int .i64 q2) ∧ W.cell? ⟨w.heap.size + 2, 3, none⟩ = some (.int .i64 q3) ∧ W.cell? ⟨w.heap.size + 2, 4, none⟩ = some (.int .i64 q4)) (first | (with_reducible exact HS.out) | (with_reducible exact HD.out) | ((with_reducible refine ⟨?_, ?_, ?_, ?_, ?_, ?_, ?_, ?_, ?_, ?_⟩) <;> ((repeat (first | (with_reducible refine (far5 (by omega)).trans ?_) | (with_reducible refine (far5n (by omega)).trans ?_))); first | (with_reducible exact HS.out.1) | (with_reducible exact HS.out.2.1) | (with_reducible exact HS.out.2.2.1) | (with_reducible exact HS.out.2.2.2.1) | (with_reducible exact HS.out.2.2.2.2.1) | (with_reducible exact HS.out.2.2.2.2.2.1) | (with_reducible exact HS.out.2.2.2.2.2.2.1) | (with_reducible exact HS.out.2.2.2.2.2.2.2.1) | (with_reducible exact HS.out.2.2.2.2.2.2.2.2.1) | (with_reducible exact HS.out.2.2.2.2.2.2.2.2.2)))) (fail)
    -- THERE
    all_goals
      go_wp2_with fail
      refine bodyPost_ret (v := .tuple #[.agg #[.int .i64 p0, .int .i64 p1, .int .i64 p2, .int .i64 p3, .int .i64 p4], .agg #[.int .i64 q0, .int .i64 q1, .int .i64 q2, .int .i64 q3, .int .i64 q4], .int .i64 0]) (by simp [results, Try.results29, go_sem, lbP_0, lbP_1, lbP_2, lbP_3, lbP_4, lbQ_0, lbQ_1, lbQ_2, lbQ_3, lbQ_4]) rfl ⟨by rw [HV.out], ?_⟩
      repeat (first | with_reducible refine Below.drew ?_ | with_reducible refine Below.setCell ?_ (by simp; try omega) _)
      exact hB
  · skip
    have HV := hide (rrP_bad (x1 := x1) (x2 := x2) HC.out hz)
    have hz2 : (cc == 0) = false := by simpa using hz
    have hz3 : (cc != 0) = true := by simpa using hz
    go_enter Try.func29, Try.ntmps29
    go_wp2_with fail
    obtain ⟨W0, hW0⟩ : ∃ W0 : World, W0 = (((((((w.alloc (.cells #[.int .i64 mg, .int .i64 st] 51)).alloc (.cells #[.int .i64 a.1, .int .i64 a.2.1, .int .i64 a.2.2.1, .int .i64 a.2.2.2.1, .int .i64 a.2.2.2.2] 53)).alloc (.cells #[.int .i64 b.1, .int .i64 b.2.1, .int .i64 b.2.2.1, .int .i64 b.2.2.2.1, .int .i64 b.2.2.2.2] 53)).alloc (.cells #[.bool x1, .bool x2] 55)).alloc (.cells #[.int .i64 0, .int .i64 0, .int .i64 0, .int .i64 0, .int .i64 0] 53)).alloc (.cells #[.int .i64 0, .int .i64 0, .int .i64 0, .int .i64 0, .int .i64 0] 53)).alloc (.cells #[.int .i64 a.1, .int .i64 a.2.1, .int .i64 a.2.2.1, .int .i64 a.2.2.2.1, .int .i64 a.2.2.2.2, .int .i64 b.1, .int .i64 b.2.1, .int .i64 b.2.2.1, .int .i64 b.2.2.2.1, .int .i64 b.2.2.2.2] 53)) := ⟨_, rfl⟩
    rw [← hW0]
    have bR : Box W0 (w.heap.size) [.int .i64 mg, .int .i64 st] := by rw [hW0]; exact ((((((box_at _ _ _ _ (by simp)).alloc (by simp) _).alloc (by simp; try omega) _).alloc (by simp; try omega) _).alloc (by simp; try omega) _).alloc (by simp; try omega) _).alloc (by simp; try omega) _
    have bA : Box W0 (w.heap.size + 1) [.int .i64 a.1, .int .i64 a.2.1, .int .i64 a.2.2.1, .int .i64 a.2.2.2.1, .int .i64 a.2.2.2.2] := by rw [hW0]; exact (((((box_at _ _ _ _ (by simp)).alloc (by simp) _).alloc (by simp; try omega) _).alloc (by simp; try omega) _).alloc (by simp; try omega) _).alloc (by simp; try omega) _
    have bAf : Fz W0 (w.heap.size + 1) := by rw [hW0]; exact (((((fz_at _ _ _ _ (by simp)).alloc (by simp) _).alloc (by simp; try omega) _).alloc (by simp; try omega) _).alloc (by simp; try omega) _).alloc (by simp; try omega) _
    have bB : Box W0 (w.heap.size + 2) [.int .i64 b.1, .int .i64 b.2.1, .int .i64 b.2.2.1, .int .i64 b.2.2.2.1, .int .i64 b.2.2.2.2] := by rw [hW0]; exact ((((box_at _ _ _ _ (by simp)).alloc (by simp) _).alloc (by simp; try omega) _).alloc (by simp; try omega) _).alloc (by simp; try omega) _
    have bBf : Fz W0 (w.heap.size + 2) := by rw [hW0]; exact ((((fz_at _ _ _ _ (by simp)).alloc (by simp) _).alloc (by simp; try omega) _).alloc (by simp; try omega) _).alloc (by simp; try omega) _
    have bX : Box W0 (w.heap.size + 3) [.bool x1, .bool x2] := by rw [hW0]; exact (((box_at _ _ _ _ (by simp)).alloc (by simp) _).alloc (by simp; try omega) _).alloc (by simp; try omega) _
    have bP : Box W0 (w.heap.size + 4) [.int .i64 0, .int .i64 0, .int .i64 0, .int .i64 0, .int .i64 0] := by rw [hW0]; exact ((box_at _ _ _ _ (by simp)).alloc (by simp) _).alloc (by simp; try omega) _
    have bPf : Fz W0 (w.heap.size + 4) := by rw [hW0]; exact ((fz_at _ _ _ _ (by simp)).alloc (by simp) _).alloc (by simp; try omega) _
    have bQ : Box W0 (w.heap.size + 5) [.int .i64 0, .int .i64 0, .int .i64 0, .int .i64 0, .int .i64 0] := by rw [hW0]; exact (box_at _ _ _ _ (by simp)).alloc (by simp) _
    have bQf : Fz W0 (w.heap.size + 5) := by rw [hW0]; exact (fz_at _ _ _ _ (by simp)).alloc (by simp) _
    have bL : Box W0 (w.heap.size + 6) [.int .i64 a.1, .int .i64 a.2.1, .int .i64 a.2.2.1, .int .i64 a.2.2.2.1, .int .i64 a.2.2.2.2, .int .i64 b.1, .int .i64 b.2.1, .int .i64 b.2.2.1, .int .i64 b.2.2.2.1, .int .i64 b.2.2.2.2] := by rw [hW0]; exact box_at _ _ _ _ (by simp)
    have hL : Rd W0 (w.heap.size + 6) (w.heap.size + 6 + 1) 5 (some ⟨w.heap.size + 6, 0, none⟩) 2 (rCtl [a, b]) := by rw [hW0]; exact rd_new _ _ _ 2 5 rfl _ rfl _ (by simp)
    have hB : Below w.heap.size w W0 := by rw [hW0]; exact (by repeat (first | exact Below.refl _ _ | refine Below.drew ?_ | refine Below.alloc ?_ (by first | (simp; done) | (simp; omega)) _))
    have hs0 : w.heap.size + 7 ≤ W0.heap.size := by rw [hW0]; first | (simp; done) | (simp; omega)
    clear hW0
    replace hr := hr.below hB (by omega)
    refine (controlCode_any A n c lo hi T hm mg st _ 2 2 (w.heap.size + 6) (w.heap.size + 6 + 1) [a, b] rfl (by omega) _ hr (by omega) hL (by omega)).mono ?_
    rintro e w1 ⟨rfl, hb⟩
    have hbb : Below W0.heap.size W0 w1 := Below.trans (by repeat (first | exact Below.refl _ _ | refine Below.drew ?_ | refine Below.alloc ?_ (by first | (simp; done) | (simp; omega)) _)) (Below.mono hb (by simp))
    clear hb
    have hs1 := hbb.size
    replace hr := hr.below hbb (by omega)
    replace hL := hL.below hbb (by omega)
    replace bR := bR.below hbb (by omega)
    replace bA := bA.below hbb (by omega)
    replace bAf := bAf.below hbb (by omega)
    replace bB := bB.below hbb (by omega)
    replace bBf := bBf.below hbb (by omega)
    replace bX := bX.below hbb (by omega)
    replace bP := bP.below hbb (by omega)
    replace bPf := bPf.below hbb (by omega)
    replace bQ := bQ.below hbb (by omega)
    replace bQf := bQf.below hbb (by omega)
    replace bL := bL.below hbb (by omega)
    replace hB := hB.trans (hbb.mono (by omega))
    clear hbb
    rw [HC.out]
    clear hL
    clear bL
    have nbP : w.heap.size + 4 < w1.heap.size := by omega
    have lbP_0 := bP 0 _ rfl
    have lbP_1 := bP 1 _ rfl
    have lbP_2 := bP 2 _ rfl
    have lbP_3 := bP 3 _ rfl
    have lbP_4 := bP 4 _ rfl
    have lfbP_0 := bPf 0
    have lfbP_1 := bPf 1
    have lfbP_2 := bPf 2
    have lfbP_3 := bPf 3
    have lfbP_4 := bPf 4
    have nbQ : w.heap.size + 5 < w1.heap.size := by omega
    have lbQ_0 := bQ 0 _ rfl
    have lbQ_1 := bQ 1 _ rfl
    have lbQ_2 := bQ 2 _ rfl
    have lbQ_3 := bQ 3 _ rfl
    have lbQ_4 := bQ 4 _ rfl
    have lfbQ_0 := bQf 0
    have lfbQ_1 := bQf 1
    have lfbQ_2 := bQf 2
    have lfbQ_3 := bQf 3
    have lfbQ_4 := bQf 4
    go_wp2_with fail
    refine bodyPost_ret (v := .tuple #[.agg #[.int .i64 0, .int .i64 0, .int .i64 0, .int .i64 0, .int .i64 0], .agg #[.int .i64 0, .int .i64 0, .int .i64 0, .int .i64 0, .int .i64 0], .int .i64 cc]) (by simp [results, Try.results29, go_sem, lbP_0, lbP_1, lbP_2, lbP_3, lbP_4, lbQ_0, lbQ_1, lbQ_2, lbQ_3, lbQ_4]) rfl ⟨by rw [HV.out], ?_⟩
    repeat (first | with_reducible refine Below.drew ?_ | with_reducible refine Below.setCell ?_ (by simp; try omega) _)
    exact hB

end Go.Proofs.Ytnbahmjimnhfbaa
