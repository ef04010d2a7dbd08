/-
  BOTH CONTROLLERS AFTER A ROUND: the reference's and the program's. No condition but those that each theorem names.
-/
import Derived.Test.YtnbahmjimnhfbaaGreatDoorStepC
namespace Go.Proofs.YtnbahmjimnhfbaaGreatDoor
open Go.RowKit
set_option linter.unusedVariables false

def hearC (arr : Bool) (o : Int) (c : Ctl) : Ctl := (c.1, c.2.1, hSeen arr c.2.2.1 o, hAge arr c.2.2.2.1, c.2.2.2.2)
def stepC (T : List (List Bool)) (mg st : Int) (first : Bool) (c : Ctl) : Ctl := (stA T mg st first c.1 c.2.1 c.2.2.1 c.2.2.2.1, c.2.1, c.2.2.1, c.2.2.2.1, stM T mg st first c.1 c.2.1 c.2.2.1 c.2.2.2.1)
def roundC (T : List (List Bool)) (mg st : Int) (x1 x2 : Bool) (p : Ctl × Ctl) : Ctl × Ctl := (stepC T mg st true (hearC x1 p.2.1 p.1), stepC T mg st false (hearC x2 p.1.1 p.2))
theorem stM_bd (T : List (List Bool)) (mg st : Int) (first : Bool) (a g s t : Int) : 1 ≤ stM T mg st first a g s t ∧ stM T mg st first a g s t ≤ 4 := by
  unfold stM; split <;> (try split) <;> (try split) <;> omega
theorem stA_bd (T : List (List Bool)) (mg st : Int) (first : Bool) (a g s t : Int) (h1 : 0 ≤ a) (h2 : a ≤ 23) : 0 ≤ stA T mg st first a g s t ∧ stA T mg st first a g s t ≤ 23 := by
  unfold stA; have := nxtD_bd a g; split <;> omega
theorem ctlOkP_mk {c : Ctl} (h1 : 0 ≤ c.1 ∧ c.1 ≤ 23) (h2 : 0 ≤ c.2.1 ∧ c.2.1 ≤ 23) (h3 : 0 ≤ c.2.2.1 ∧ c.2.2.1 ≤ 23) (h4 : 0 ≤ c.2.2.2.1 ∧ c.2.2.2.1 ≤ 200) (h5 : 1 ≤ c.2.2.2.2 ∧ c.2.2.2.2 ≤ 4) : ctlOkP c = true := by
  simp [ctlOkP, ctlOk, inR, *]
theorem hearC_ok {arr : Bool} {o : Int} {c : Ctl} (h : ctlOkP c = true) (ho : 0 ≤ o ∧ o ≤ 23) : ctlOkP (hearC arr o c) = true := by
  obtain ⟨h1, h2, h3, h4, h5⟩ := ctlOk_true h
  refine ctlOkP_mk h1 h2 ?_ ?_ h5
  · unfold hearC hSeen; cases arr <;> simp <;> omega
  · unfold hearC hAge; cases arr <;> simp <;> omega
theorem stepC_ok {T : List (List Bool)} {mg st : Int} {first : Bool} {c : Ctl} (h : ctlOkP c = true) : ctlOkP (stepC T mg st first c) = true := by
  obtain ⟨h1, h2, h3, h4, h5⟩ := ctlOk_true h
  exact ctlOkP_mk (stA_bd _ _ _ _ _ _ _ _ h1.1 h1.2) h2 h3 h4 (stM_bd _ _ _ _ _ _ _ _)
theorem roundC_ok {T : List (List Bool)} {mg st : Int} {x1 x2 : Bool} {p : Ctl × Ctl} (h1 : ctlOkP p.1 = true) (h2 : ctlOkP p.2 = true) : ctlOkP (roundC T mg st x1 x2 p).1 = true ∧ ctlOkP (roundC T mg st x1 x2 p).2 = true :=
  ⟨stepC_ok (hearC_ok h1 (ctlOk_true h2).1), stepC_ok (hearC_ok h2 (ctlOk_true h1).1)⟩

set_option maxRecDepth 100000 in
set_option maxHeartbeats 4000000 in
theorem l18Round_any (A : Option Addr) (n c lo hi : Nat) (T : List (List Bool)) (ok : okT T = true) (mg st : Int) (a b : Ctl) (x1 x2 : Bool) (hru : ruOk mg st = true) (ha : ctlOkP a = true) (hb : ctlOkP b = true) (w : World) (hr : RdSS w lo hi A n (rrBool T)) (hhi : hi ≤ w.heap.size) :
    Calls Tryz.prog 31 #[.slice A n c, .agg #[.int .i64 mg, .int .i64 st], .agg #[.int .i64 a.1, .int .i64 a.2.1, .int .i64 a.2.2.1, .int .i64 a.2.2.2.1, .int .i64 a.2.2.2.2], .agg #[.int .i64 b.1, .int .i64 b.2.1, .int .i64 b.2.2.1, .int .i64 b.2.2.2.1, .int .i64 b.2.2.2.2], .agg #[.bool x1, .bool x2]] w fun e w' => e = .returned (.tuple #[.agg #[.int .i64 (roundC T mg st x1 x2 (a, b)).1.1, .int .i64 (roundC T mg st x1 x2 (a, b)).1.2.1, .int .i64 (roundC T mg st x1 x2 (a, b)).1.2.2.1, .int .i64 (roundC T mg st x1 x2 (a, b)).1.2.2.2.1, .int .i64 (roundC T mg st x1 x2 (a, b)).1.2.2.2.2], .agg #[.int .i64 (roundC T mg st x1 x2 (a, b)).2.1, .int .i64 (roundC T mg st x1 x2 (a, b)).2.2.1, .int .i64 (roundC T mg st x1 x2 (a, b)).2.2.2.1, .int .i64 (roundC T mg st x1 x2 (a, b)).2.2.2.2.1, .int .i64 (roundC T mg st x1 x2 (a, b)).2.2.2.2.2]]) ∧ Below w.heap.size w w' := by
  obtain ⟨⟨m1, m2⟩, q1, q2⟩ := ruOk_true hru
  obtain ⟨⟨a1, a2⟩, ⟨g1, g2⟩, ⟨s1, s2⟩, ⟨t1, t2⟩, -⟩ := ctlOk_true ha
  obtain ⟨⟨b1, b2⟩, ⟨h1, h2⟩, ⟨r1, r2⟩, ⟨u1, u2⟩, -⟩ := ctlOk_true hb
  obtain ⟨⟨c1, c2⟩, ⟨c3, c4⟩, ⟨c5, c6⟩, ⟨c7, c8⟩, -⟩ := ctlOk_true (hearC_ok (arr := x1) (o := b.1) ha ⟨b1, b2⟩)
  obtain ⟨⟨d1, d2⟩, ⟨d3, d4⟩, ⟨d5, d6⟩, ⟨d7, d8⟩, -⟩ := ctlOk_true (hearC_ok (arr := x2) (o := a.1) hb ⟨a1, a2⟩)
  have c5' : 0 ≤ hSeen x1 a.2.2.1 b.1 := c5
  have c6' : hSeen x1 a.2.2.1 b.1 ≤ 23 := c6
  have c7' : 0 ≤ hAge x1 a.2.2.2.1 := c7
  have c8' : hAge x1 a.2.2.2.1 ≤ 200 := c8
  have d5' : 0 ≤ hSeen x2 b.2.2.1 a.1 := d5
  have d6' : hSeen x2 b.2.2.1 a.1 ≤ 23 := d6
  have d7' : 0 ≤ hAge x2 b.2.2.2.1 := d7
  have d8' : hAge x2 b.2.2.2.1 ≤ 200 := d8
  have OK := hide ok
  clear ok hru ha hb c1 c2 c3 c4 c5 c6 c7 c8 d1 d2 d3 d4 d5 d6 d7 d8
  have HH := hide hhi
  go_enter Tryz.func31, Tryz.ntmps31
  go_wp2_with fail
  obtain ⟨W0, hW0⟩ : ∃ W0 : World, W0 = ((((((w.alloc (.cells #[.int .i64 mg, .int .i64 st] 26)).alloc (.cells #[.int .i64 a.1, .int .i64 a.2.1, .int .i64 a.2.2.1, .int .i64 a.2.2.2.1, .int .i64 a.2.2.2.2] 28)).alloc (.cells #[.int .i64 b.1, .int .i64 b.2.1, .int .i64 b.2.2.1, .int .i64 b.2.2.2.1, .int .i64 b.2.2.2.2] 28)).alloc (.cells #[.bool x1, .bool x2] 55)).alloc (.cells #[.int .i64 0, .int .i64 0, .int .i64 0, .int .i64 0, .int .i64 0] 28)).alloc (.cells #[.int .i64 0, .int .i64 0, .int .i64 0, .int .i64 0, .int .i64 0] 28)) := ⟨_, rfl⟩
  rw [← hW0]
  have bR : Box W0 (w.heap.size) [.int .i64 mg, .int .i64 st] := by rw [hW0]; exact (((((box_at _ _ _ _ (by simp)).alloc (by simp) _).alloc (by simp; try omega) _).alloc (by simp; try omega) _).alloc (by simp; try omega) _).alloc (by simp; try omega) _
  have bA : Box W0 (w.heap.size + 1) [.int .i64 a.1, .int .i64 a.2.1, .int .i64 a.2.2.1, .int .i64 a.2.2.2.1, .int .i64 a.2.2.2.2] := by rw [hW0]; exact ((((box_at _ _ _ _ (by simp)).alloc (by simp) _).alloc (by simp; try omega) _).alloc (by simp; try omega) _).alloc (by simp; try omega) _
  have bB : Box W0 (w.heap.size + 2) [.int .i64 b.1, .int .i64 b.2.1, .int .i64 b.2.2.1, .int .i64 b.2.2.2.1, .int .i64 b.2.2.2.2] := by rw [hW0]; exact (((box_at _ _ _ _ (by simp)).alloc (by simp) _).alloc (by simp; try omega) _).alloc (by simp; try omega) _
  have bX : Box W0 (w.heap.size + 3) [.bool x1, .bool x2] := by rw [hW0]; exact ((box_at _ _ _ _ (by simp)).alloc (by simp) _).alloc (by simp; try omega) _
  have bP : Box W0 (w.heap.size + 4) [.int .i64 0, .int .i64 0, .int .i64 0, .int .i64 0, .int .i64 0] := by rw [hW0]; exact (box_at _ _ _ _ (by simp)).alloc (by simp) _
  have bPf : Fz W0 (w.heap.size + 4) := by rw [hW0]; exact (fz_at _ _ _ _ (by simp)).alloc (by simp) _
  have bQ : Box W0 (w.heap.size + 5) [.int .i64 0, .int .i64 0, .int .i64 0, .int .i64 0, .int .i64 0] := by rw [hW0]; exact box_at _ _ _ _ (by simp)
  have bQf : Fz W0 (w.heap.size + 5) := by rw [hW0]; exact fz_at _ _ _ _ (by simp)
  have hB : Below w.heap.size w W0 := by rw [hW0]; exact (by repeat (first | exact Below.refl _ _ | refine Below.drew ?_ | refine Below.alloc ?_ (by first | (simp; done) | (simp; omega)) _))
  have hs0 : w.heap.size + 6 ≤ W0.heap.size := by rw [hW0]; first | (simp; done) | (simp; omega)
  clear hW0
  replace hr := hr.below hB (by omega)
  have nbA : w.heap.size + 1 < W0.heap.size := by omega
  have lbA_0 := bA 0 _ rfl
  have lbA_1 := bA 1 _ rfl
  have lbA_2 := bA 2 _ rfl
  have lbA_3 := bA 3 _ rfl
  have lbA_4 := bA 4 _ rfl
  have nbX : w.heap.size + 3 < W0.heap.size := by omega
  have lbX_0 := bX 0 _ rfl
  have lbX_1 := bX 1 _ rfl
  have nbB : w.heap.size + 2 < W0.heap.size := by omega
  have lbB_0 := bB 0 _ rfl
  have lbB_1 := bB 1 _ rfl
  have lbB_2 := bB 2 _ rfl
  have lbB_3 := bB 3 _ rfl
  have lbB_4 := bB 4 _ rfl
  go_wp2_with fail
  refine (l18Hear_any a.1 a.2.1 a.2.2.1 a.2.2.2.1 a.2.2.2.2 x1 b.1 t1 t2 _).mono ?_
  rintro e w1 ⟨rfl, hb⟩
  have hbb : Below W0.heap.size W0 w1 := Below.trans (by repeat (first | exact Below.refl _ _ | refine Below.drew ?_ | refine Below.alloc ?_ (by first | (simp; done) | (simp; omega)) _)) (Below.mono hb (by simp))
  clear hb
  have hs1 := hbb.size
  replace hr := hr.below hbb (by omega)
  replace bR := bR.below hbb (by omega)
  replace bA := bA.below hbb (by omega)
  replace bB := bB.below hbb (by omega)
  replace bX := bX.below hbb (by omega)
  replace bP := bP.below hbb (by omega)
  replace bPf := bPf.below hbb (by omega)
  replace bQ := bQ.below hbb (by omega)
  replace bQf := bQf.below hbb (by omega)
  replace hB := hB.trans (hbb.mono (by omega))
  clear hbb
  clear nbA lbA_0 lbA_1 lbA_2 lbA_3 lbA_4 nbX lbX_0 lbX_1 nbB lbB_0 lbB_1 lbB_2 lbB_3 lbB_4
  have nbA : w.heap.size + 1 < w1.heap.size := by omega
  have lbA_0 := bA 0 _ rfl
  have lbA_1 := bA 1 _ rfl
  have lbA_2 := bA 2 _ rfl
  have lbA_3 := bA 3 _ rfl
  have lbA_4 := bA 4 _ rfl
  have nbX : w.heap.size + 3 < w1.heap.size := by omega
  have lbX_0 := bX 0 _ rfl
  have lbX_1 := bX 1 _ rfl
  have nbB : w.heap.size + 2 < w1.heap.size := by omega
  have lbB_0 := bB 0 _ rfl
  have lbB_1 := bB 1 _ rfl
  have lbB_2 := bB 2 _ rfl
  have lbB_3 := bB 3 _ rfl
  have lbB_4 := bB 4 _ rfl
  go_wp2_with fail
  clear nbA lbA_0 lbA_1 lbA_2 lbA_3 lbA_4 nbX lbX_0 lbX_1 nbB lbB_0 lbB_1 lbB_2 lbB_3 lbB_4
  obtain ⟨w2, hW⟩ : ∃ W : World, W = (w1.alloc (.cells #[.int .i64 a.1, .int .i64 a.2.1, .int .i64 (hSeen x1 a.2.2.1 b.1), .int .i64 (hAge x1 a.2.2.2.1), .int .i64 a.2.2.2.2] 28)) := ⟨_, rfl⟩
  rw [← hW]
  have bC : Box w2 (w1.heap.size) [.int .i64 a.1, .int .i64 a.2.1, .int .i64 (hSeen x1 a.2.2.1 b.1), .int .i64 (hAge x1 a.2.2.2.1), .int .i64 a.2.2.2.2] := by rw [hW]; exact box_at _ _ _ _ (by simp)
  have hbb : Below w1.heap.size w1 w2 := by rw [hW]; exact (by repeat (first | exact Below.refl _ _ | refine Below.drew ?_ | refine Below.alloc ?_ (by first | (simp; done) | (simp; omega)) _))
  have hs2 : w1.heap.size + 1 ≤ w2.heap.size := by rw [hW]; first | (simp; done) | (simp; omega)
  clear hW
  replace hr := hr.below hbb (by omega)
  replace bR := bR.below hbb (by omega)
  replace bA := bA.below hbb (by omega)
  replace bB := bB.below hbb (by omega)
  replace bX := bX.below hbb (by omega)
  replace bP := bP.below hbb (by omega)
  replace bPf := bPf.below hbb (by omega)
  replace bQ := bQ.below hbb (by omega)
  replace bQf := bQf.below hbb (by omega)
  replace hB := hB.trans (hbb.mono (by omega))
  clear hbb
  refine (l18Hear_any b.1 b.2.1 b.2.2.1 b.2.2.2.1 b.2.2.2.2 x2 a.1 u1 u2 _).mono ?_
  rintro e w3 ⟨rfl, hb⟩
  have hbb : Below w2.heap.size w2 w3 := Below.trans (by repeat (first | exact Below.refl _ _ | refine Below.drew ?_ | refine Below.alloc ?_ (by first | (simp; done) | (simp; omega)) _)) (Below.mono hb (by simp))
  clear hb
  have hs3 := hbb.size
  replace hr := hr.below hbb (by omega)
  replace bR := bR.below hbb (by omega)
  replace bA := bA.below hbb (by omega)
  replace bB := bB.below hbb (by omega)
  replace bX := bX.below hbb (by omega)
  replace bP := bP.below hbb (by omega)
  replace bPf := bPf.below hbb (by omega)
  replace bQ := bQ.below hbb (by omega)
  replace bQf := bQf.below hbb (by omega)
  replace bC := bC.below hbb (by omega)
  replace hB := hB.trans (hbb.mono (by omega))
  clear hbb
  go_wp2_with fail
  obtain ⟨w4, hW⟩ : ∃ W : World, W = (w3.alloc (.cells #[.int .i64 b.1, .int .i64 b.2.1, .int .i64 (hSeen x2 b.2.2.1 a.1), .int .i64 (hAge x2 b.2.2.2.1), .int .i64 b.2.2.2.2] 28)) := ⟨_, rfl⟩
  rw [← hW]
  have bD : Box w4 (w3.heap.size) [.int .i64 b.1, .int .i64 b.2.1, .int .i64 (hSeen x2 b.2.2.1 a.1), .int .i64 (hAge x2 b.2.2.2.1), .int .i64 b.2.2.2.2] := by rw [hW]; exact box_at _ _ _ _ (by simp)
  have hbb : Below w3.heap.size w3 w4 := by rw [hW]; exact (by repeat (first | exact Below.refl _ _ | refine Below.drew ?_ | refine Below.alloc ?_ (by first | (simp; done) | (simp; omega)) _))
  have hs4 : w3.heap.size + 1 ≤ w4.heap.size := by rw [hW]; first | (simp; done) | (simp; omega)
  clear hW
  replace hr := hr.below hbb (by omega)
  replace bR := bR.below hbb (by omega)
  replace bA := bA.below hbb (by omega)
  replace bB := bB.below hbb (by omega)
  replace bX := bX.below hbb (by omega)
  replace bP := bP.below hbb (by omega)
  replace bPf := bPf.below hbb (by omega)
  replace bQ := bQ.below hbb (by omega)
  replace bQf := bQf.below hbb (by omega)
  replace bC := bC.below hbb (by omega)
  replace hB := hB.trans (hbb.mono (by omega))
  clear hbb
  clear bA bB bX
  go_wp2_with fail
  have HD : Hid ((World.drew w4).cell? ⟨w.heap.size, 0, none⟩ = some (.int .i64 mg) ∧ (World.drew w4).cell? ⟨w.heap.size, 1, none⟩ = some (.int .i64 st) ∧ (World.drew w4).cell? ⟨w1.heap.size, 0, none⟩ = some (.int .i64 a.1) ∧ (World.drew w4).cell? ⟨w1.heap.size, 1, none⟩ = some (.int .i64 a.2.1) ∧ (World.drew w4).cell? ⟨w1.heap.size, 2, none⟩ = some (.int .i64 (hSeen x1 a.2.2.1 b.1)) ∧ (World.drew w4).cell? ⟨w1.heap.size, 3, none⟩ = some (.int .i64 (hAge x1 a.2.2.2.1)) ∧ (World.drew w4).cell? ⟨w1.heap.size, 4, none⟩ = some (.int .i64 a.2.2.2.2) ∧ (World.drew w4).cell? ⟨w3.heap.size, 0, none⟩ = some (.int .i64 b.1) ∧ (World.drew w4).cell? ⟨w3.heap.size, 1, none⟩ = some (.int .i64 b.2.1) ∧ (World.drew w4).cell? ⟨w3.heap.size, 2, none⟩ = some (.int .i64 (hSeen x2 b.2.2.1 a.1)) ∧ (World.drew w4).cell? ⟨w3.heap.size, 3, none⟩ = some (.int .i64 (hAge x2 b.2.2.2.1)) ∧ (World.drew w4).cell? ⟨w3.heap.size, 4, none⟩ = some (.int .i64 b.2.2.2.2)) := hide ⟨bR 0 _ rfl, bR 1 _ rfl, bC 0 _ rfl, bC 1 _ rfl, bC 2 _ rfl, bC 3 _ rfl, bC 4 _ rfl, bD 0 _ rfl, bD 1 _ rfl, bD 2 _ rfl, bD 3 _ rfl, bD 4 _ rfl⟩
  go_region_held3 (fun W => W.cell? ⟨w.heap.size, 0, none⟩ = some (.int .i64 mg) ∧ W.cell? ⟨w.heap.size, 1, none⟩ = some (.int .i64 st) ∧ W.cell? ⟨w1.heap.size, 0, none⟩ = some (.int .i64 a.1) ∧ W.cell? ⟨w1.heap.size, 1, none⟩ = some (.int .i64 a.2.1) ∧ W.cell? ⟨w1.heap.size, 2, none⟩ = some (.int .i64 (hSeen x1 a.2.2.1 b.1)) ∧ W.cell? ⟨w1.heap.size, 3, none⟩ = some (.int .i64 (hAge x1 a.2.2.2.1)) ∧ W.cell? ⟨w1.heap.size, 4, none⟩ = some (.int .i64 a.2.2.2.2) ∧ W.cell? ⟨w3.heap.size, 0, none⟩ = some (.int .i64 b.1) ∧ W.cell? ⟨w3.heap.size, 1, none⟩ = some (.int .i64 b.2.1) ∧ W.cell? ⟨w3.heap.size, 2, none⟩ = some (.int .i64 (hSeen x2 b.2.2.1 a.1)) ∧ W.cell? ⟨w3.heap.size, 3, none⟩ = some (.int .i64 (hAge x2 b.2.2.2.1)) ∧ W.cell? ⟨w3.heap.size, 4, none⟩ = some (.int .i64 b.2.2.2.2)) (first | (with_reducible exact HS.out) | (with_reducible exact HD.out) | ((with_reducible refine ⟨?_, ?_, ?_, ?_, ?_, ?_, ?_, ?_, ?_, ?_, ?_, ?_⟩) <;> (repeat (with_reducible refine (World.cell?_setCell_far _ _ _ _ (by first | (simp; done) | (simp; omega))).trans ?_)) <;> first | (with_reducible exact HS.out.1) | (with_reducible exact HS.out.2.1) | (with_reducible exact HS.out.2.2.1) | (with_reducible exact HS.out.2.2.2.1) | (with_reducible exact HS.out.2.2.2.2.1) | (with_reducible exact HS.out.2.2.2.2.2.1) | (with_reducible exact HS.out.2.2.2.2.2.2.1) | (with_reducible exact HS.out.2.2.2.2.2.2.2.1) | (with_reducible exact HS.out.2.2.2.2.2.2.2.2.1) | (with_reducible exact HS.out.2.2.2.2.2.2.2.2.2.1) | (with_reducible exact HS.out.2.2.2.2.2.2.2.2.2.2.1) | (with_reducible exact HS.out.2.2.2.2.2.2.2.2.2.2.2) | fail) | fail) (first | (go_at_call 55; (with_reducible refine (l18Step_any A n c lo hi T OK.out mg st true a.1 a.2.1 (hSeen x1 a.2.2.1 b.1) (hAge x1 a.2.2.2.1) a.2.2.2.2 m1 m2 q1 q2 a1 a2 g1 g2 c5' c6' c7' c8' _ hr.drew (le_drew (by omega))).mono ?_); rintro e w5 ⟨rfl, hb⟩; have hbb : Below w4.heap.size w4 w5 := Below.trans (by repeat (first | exact Below.refl _ _ | refine Below.drew ?_ | refine Below.alloc ?_ (by first | (simp; done) | (simp; omega)) _)) (Below.mono hb (by simp)); clear hb; have hs5 := hbb.size; replace hr := hr.below hbb (by omega); replace bR := bR.below hbb (by omega); replace bP := bP.below hbb (by omega); replace bPf := bPf.below hbb (by omega); replace bQ := bQ.below hbb (by omega); replace bQf := bQf.below hbb (by omega); replace bC := bC.below hbb (by omega); replace bD := bD.below hbb (by omega); replace hB := hB.trans (hbb.mono (by omega)); clear hbb; have HS : Hid (w5.cell? ⟨w.heap.size, 0, none⟩ = some (.int .i64 mg) ∧ w5.cell? ⟨w.heap.size, 1, none⟩ = some (.int .i64 st) ∧ w5.cell? ⟨w1.heap.size, 0, none⟩ = some (.int .i64 a.1) ∧ w5.cell? ⟨w1.heap.size, 1, none⟩ = some (.int .i64 a.2.1) ∧ w5.cell? ⟨w1.heap.size, 2, none⟩ = some (.int .i64 (hSeen x1 a.2.2.1 b.1)) ∧ w5.cell? ⟨w1.heap.size, 3, none⟩ = some (.int .i64 (hAge x1 a.2.2.2.1)) ∧ w5.cell? ⟨w1.heap.size, 4, none⟩ = some (.int .i64 a.2.2.2.2) ∧ w5.cell? ⟨w3.heap.size, 0, none⟩ = some (.int .i64 b.1) ∧ w5.cell? ⟨w3.heap.size, 1, none⟩ = some (.int .i64 b.2.1) ∧ w5.cell? ⟨w3.heap.size, 2, none⟩ = some (.int .i64 (hSeen x2 b.2.2.1 a.1)) ∧ w5.cell? ⟨w3.heap.size, 3, none⟩ = some (.int .i64 (hAge x2 b.2.2.2.1)) ∧ w5.cell? ⟨w3.heap.size, 4, none⟩ = some (.int .i64 b.2.2.2.2)) := hide ⟨bR 0 _ rfl, bR 1 _ rfl, bC 0 _ rfl, bC 1 _ rfl, bC 2 _ rfl, bC 3 _ rfl, bC 4 _ rfl, bD 0 _ rfl, bD 1 _ rfl, bD 2 _ rfl, bD 3 _ rfl, bD 4 _ rfl⟩) | (go_at_call 55; (with_reducible refine (l18Step_any A n c lo hi T OK.out mg st false b.1 b.2.1 (hSeen x2 b.2.2.1 a.1) (hAge x2 b.2.2.2.1) b.2.2.2.2 m1 m2 q1 q2 b1 b2 h1 h2 d5' d6' d7' d8' _ hr (by omega)).mono ?_); rintro e w6 ⟨rfl, hb⟩; have hbb : Below w5.heap.size w5 w6 := Below.trans (by repeat (first | exact Below.refl _ _ | refine Below.drew ?_ | refine Below.alloc ?_ (by first | (simp; done) | (simp; omega)) _)) (Below.mono hb (by simp)); clear hb; have hs6 := hbb.size; replace hr := hr.below hbb (by omega); replace bR := bR.below hbb (by omega); replace bP := bP.below hbb (by omega); replace bPf := bPf.below hbb (by omega); replace bQ := bQ.below hbb (by omega); replace bQf := bQf.below hbb (by omega); replace bC := bC.below hbb (by omega); replace bD := bD.below hbb (by omega); replace hB := hB.trans (hbb.mono (by omega)); clear hbb; have np1 : w.heap.size + 4 < w6.heap.size := (by omega); have np2 : w.heap.size + 5 < w6.heap.size := (by omega); have lbP0 := bP 0 _ rfl; have kbP0 := bPf 0; have lbP1 := bP 1 _ rfl; have kbP1 := bPf 1; have lbP2 := bP 2 _ rfl; have kbP2 := bPf 2; have lbP3 := bP 3 _ rfl; have kbP3 := bPf 3; have lbP4 := bP 4 _ rfl; have kbP4 := bPf 4; have lbQ0 := bQ 0 _ rfl; have kbQ0 := bQf 0; have lbQ1 := bQ 1 _ rfl; have kbQ1 := bQf 1; have lbQ2 := bQ 2 _ rfl; have kbQ2 := bQf 2; have lbQ3 := bQ 3 _ rfl; have kbQ3 := bQf 3; have lbQ4 := bQ 4 _ rfl; have kbQ4 := bQf 4; have HS : Hid (w6.cell? ⟨w.heap.size, 0, none⟩ = some (.int .i64 mg) ∧ w6.cell? ⟨w.heap.size, 1, none⟩ = some (.int .i64 st) ∧ w6.cell? ⟨w1.heap.size, 0, none⟩ = some (.int .i64 a.1) ∧ w6.cell? ⟨w1.heap.size, 1, none⟩ = some (.int .i64 a.2.1) ∧ w6.cell? ⟨w1.heap.size, 2, none⟩ = some (.int .i64 (hSeen x1 a.2.2.1 b.1)) ∧ w6.cell? ⟨w1.heap.size, 3, none⟩ = some (.int .i64 (hAge x1 a.2.2.2.1)) ∧ w6.cell? ⟨w1.heap.size, 4, none⟩ = some (.int .i64 a.2.2.2.2) ∧ w6.cell? ⟨w3.heap.size, 0, none⟩ = some (.int .i64 b.1) ∧ w6.cell? ⟨w3.heap.size, 1, none⟩ = some (.int .i64 b.2.1) ∧ w6.cell? ⟨w3.heap.size, 2, none⟩ = some (.int .i64 (hSeen x2 b.2.2.1 a.1)) ∧ w6.cell? ⟨w3.heap.size, 3, none⟩ = some (.int .i64 (hAge x2 b.2.2.2.1)) ∧ w6.cell? ⟨w3.heap.size, 4, none⟩ = some (.int .i64 b.2.2.2.2)) := hide ⟨bR 0 _ rfl, bR 1 _ rfl, bC 0 _ rfl, bC 1 _ rfl, bC 2 _ rfl, bC 3 _ rfl, bC 4 _ rfl, bD 0 _ rfl, bD 1 _ rfl, bD 2 _ rfl, bD 3 _ rfl, bD 4 _ rfl⟩))
  all_goals go_wp2_with fail
  all_goals refine bodyPost_ret (v := .tuple #[.agg #[.int .i64 (roundC T mg st x1 x2 (a, b)).1.1, .int .i64 (roundC T mg st x1 x2 (a, b)).1.2.1, .int .i64 (roundC T mg st x1 x2 (a, b)).1.2.2.1, .int .i64 (roundC T mg st x1 x2 (a, b)).1.2.2.2.1, .int .i64 (roundC T mg st x1 x2 (a, b)).1.2.2.2.2], .agg #[.int .i64 (roundC T mg st x1 x2 (a, b)).2.1, .int .i64 (roundC T mg st x1 x2 (a, b)).2.2.1, .int .i64 (roundC T mg st x1 x2 (a, b)).2.2.2.1, .int .i64 (roundC T mg st x1 x2 (a, b)).2.2.2.2.1, .int .i64 (roundC T mg st x1 x2 (a, b)).2.2.2.2.2]]) (by simp [results, Tryz.results31, go_sem, lbP0, lbP1, lbP2, lbP3, lbP4, lbQ0, lbQ1, lbQ2, lbQ3, lbQ4, roundC, stepC, hearC]) rfl ⟨rfl, ?_⟩
  all_goals repeat (with_reducible refine Below.setCell ?_ (by simp; try omega) _)
  all_goals exact hB

set_option maxRecDepth 100000 in
set_option maxHeartbeats 4000000 in
theorem implRound_any (A : Option Addr) (n c lo hi : Nat) (T : List (List Bool)) (ok : okT T = true) (mg st : Int) (a b : Ctl) (x1 x2 : Bool) (hru : ruOk mg st = true) (ha : ctlOkP a = true) (hb : ctlOkP b = true) (w : World) (hr : RdSS w lo hi A n (rrBool T)) (hhi : hi ≤ w.heap.size) :
    Calls Tryz.prog 28 #[.slice A n c, .agg #[.int .i64 mg, .int .i64 st], .agg #[.int .i64 a.1, .int .i64 a.2.1, .int .i64 a.2.2.1, .int .i64 a.2.2.2.1, .int .i64 a.2.2.2.2], .agg #[.int .i64 b.1, .int .i64 b.2.1, .int .i64 b.2.2.1, .int .i64 b.2.2.2.1, .int .i64 b.2.2.2.2], .agg #[.bool x1, .bool x2]] w fun e w' => e = .returned (.tuple #[.agg #[.int .i64 (roundC T mg st x1 x2 (a, b)).1.1, .int .i64 (roundC T mg st x1 x2 (a, b)).1.2.1, .int .i64 (roundC T mg st x1 x2 (a, b)).1.2.2.1, .int .i64 (roundC T mg st x1 x2 (a, b)).1.2.2.2.1, .int .i64 (roundC T mg st x1 x2 (a, b)).1.2.2.2.2], .agg #[.int .i64 (roundC T mg st x1 x2 (a, b)).2.1, .int .i64 (roundC T mg st x1 x2 (a, b)).2.2.1, .int .i64 (roundC T mg st x1 x2 (a, b)).2.2.2.1, .int .i64 (roundC T mg st x1 x2 (a, b)).2.2.2.2.1, .int .i64 (roundC T mg st x1 x2 (a, b)).2.2.2.2.2]]) ∧ Below w.heap.size w w' := by
  obtain ⟨⟨m1, m2⟩, q1, q2⟩ := ruOk_true hru
  obtain ⟨⟨a1, a2⟩, ⟨g1, g2⟩, ⟨s1, s2⟩, ⟨t1, t2⟩, -⟩ := ctlOk_true ha
  obtain ⟨⟨b1, b2⟩, ⟨h1, h2⟩, ⟨r1, r2⟩, ⟨u1, u2⟩, -⟩ := ctlOk_true hb
  obtain ⟨⟨c1, c2⟩, ⟨c3, c4⟩, ⟨c5, c6⟩, ⟨c7, c8⟩, -⟩ := ctlOk_true (hearC_ok (arr := x1) (o := b.1) ha ⟨b1, b2⟩)
  obtain ⟨⟨d1, d2⟩, ⟨d3, d4⟩, ⟨d5, d6⟩, ⟨d7, d8⟩, -⟩ := ctlOk_true (hearC_ok (arr := x2) (o := a.1) hb ⟨a1, a2⟩)
  have c5' : 0 ≤ hSeen x1 a.2.2.1 b.1 := c5
  have c6' : hSeen x1 a.2.2.1 b.1 ≤ 23 := c6
  have c7' : 0 ≤ hAge x1 a.2.2.2.1 := c7
  have c8' : hAge x1 a.2.2.2.1 ≤ 200 := c8
  have d5' : 0 ≤ hSeen x2 b.2.2.1 a.1 := d5
  have d6' : hSeen x2 b.2.2.1 a.1 ≤ 23 := d6
  have d7' : 0 ≤ hAge x2 b.2.2.2.1 := d7
  have d8' : hAge x2 b.2.2.2.1 ≤ 200 := d8
  have OK := hide ok
  clear ok hru ha hb c1 c2 c3 c4 c5 c6 c7 c8 d1 d2 d3 d4 d5 d6 d7 d8
  have HH := hide hhi
  go_enter Tryz.func28, Tryz.ntmps28
  go_wp2_with fail
  obtain ⟨W0, hW0⟩ : ∃ W0 : World, W0 = ((((((w.alloc (.cells #[.int .i64 mg, .int .i64 st] 26)).alloc (.cells #[.int .i64 a.1, .int .i64 a.2.1, .int .i64 a.2.2.1, .int .i64 a.2.2.2.1, .int .i64 a.2.2.2.2] 28)).alloc (.cells #[.int .i64 b.1, .int .i64 b.2.1, .int .i64 b.2.2.1, .int .i64 b.2.2.2.1, .int .i64 b.2.2.2.2] 28)).alloc (.cells #[.bool x1, .bool x2] 55)).alloc (.cells #[.int .i64 0, .int .i64 0, .int .i64 0, .int .i64 0, .int .i64 0] 28)).alloc (.cells #[.int .i64 0, .int .i64 0, .int .i64 0, .int .i64 0, .int .i64 0] 28)) := ⟨_, rfl⟩
  rw [← hW0]
  have bR : Box W0 (w.heap.size) [.int .i64 mg, .int .i64 st] := by rw [hW0]; exact (((((box_at _ _ _ _ (by simp)).alloc (by simp) _).alloc (by simp; try omega) _).alloc (by simp; try omega) _).alloc (by simp; try omega) _).alloc (by simp; try omega) _
  have bA : Box W0 (w.heap.size + 1) [.int .i64 a.1, .int .i64 a.2.1, .int .i64 a.2.2.1, .int .i64 a.2.2.2.1, .int .i64 a.2.2.2.2] := by rw [hW0]; exact ((((box_at _ _ _ _ (by simp)).alloc (by simp) _).alloc (by simp; try omega) _).alloc (by simp; try omega) _).alloc (by simp; try omega) _
  have bB : Box W0 (w.heap.size + 2) [.int .i64 b.1, .int .i64 b.2.1, .int .i64 b.2.2.1, .int .i64 b.2.2.2.1, .int .i64 b.2.2.2.2] := by rw [hW0]; exact (((box_at _ _ _ _ (by simp)).alloc (by simp) _).alloc (by simp; try omega) _).alloc (by simp; try omega) _
  have bX : Box W0 (w.heap.size + 3) [.bool x1, .bool x2] := by rw [hW0]; exact ((box_at _ _ _ _ (by simp)).alloc (by simp) _).alloc (by simp; try omega) _
  have bP : Box W0 (w.heap.size + 4) [.int .i64 0, .int .i64 0, .int .i64 0, .int .i64 0, .int .i64 0] := by rw [hW0]; exact (box_at _ _ _ _ (by simp)).alloc (by simp) _
  have bPf : Fz W0 (w.heap.size + 4) := by rw [hW0]; exact (fz_at _ _ _ _ (by simp)).alloc (by simp) _
  have bQ : Box W0 (w.heap.size + 5) [.int .i64 0, .int .i64 0, .int .i64 0, .int .i64 0, .int .i64 0] := by rw [hW0]; exact box_at _ _ _ _ (by simp)
  have bQf : Fz W0 (w.heap.size + 5) := by rw [hW0]; exact fz_at _ _ _ _ (by simp)
  have hB : Below w.heap.size w W0 := by rw [hW0]; exact (by repeat (first | exact Below.refl _ _ | refine Below.drew ?_ | refine Below.alloc ?_ (by first | (simp; done) | (simp; omega)) _))
  have hs0 : w.heap.size + 6 ≤ W0.heap.size := by rw [hW0]; first | (simp; done) | (simp; omega)
  clear hW0
  replace hr := hr.below hB (by omega)
  go_wp2_with fail
  have HD : Hid ((World.drew W0).cell? ⟨w.heap.size, 0, none⟩ = some (.int .i64 mg) ∧ (World.drew W0).cell? ⟨w.heap.size, 1, none⟩ = some (.int .i64 st) ∧ (World.drew W0).cell? ⟨w.heap.size + 1, 0, none⟩ = some (.int .i64 a.1) ∧ (World.drew W0).cell? ⟨w.heap.size + 1, 1, none⟩ = some (.int .i64 a.2.1) ∧ (World.drew W0).cell? ⟨w.heap.size + 1, 2, none⟩ = some (.int .i64 a.2.2.1) ∧ (World.drew W0).cell? ⟨w.heap.size + 1, 3, none⟩ = some (.int .i64 a.2.2.2.1) ∧ (World.drew W0).cell? ⟨w.heap.size + 1, 4, none⟩ = some (.int .i64 a.2.2.2.2) ∧ (World.drew W0).cell? ⟨w.heap.size + 2, 0, none⟩ = some (.int .i64 b.1) ∧ (World.drew W0).cell? ⟨w.heap.size + 2, 1, none⟩ = some (.int .i64 b.2.1) ∧ (World.drew W0).cell? ⟨w.heap.size + 2, 2, none⟩ = some (.int .i64 b.2.2.1) ∧ (World.drew W0).cell? ⟨w.heap.size + 2, 3, none⟩ = some (.int .i64 b.2.2.2.1) ∧ (World.drew W0).cell? ⟨w.heap.size + 2, 4, none⟩ = some (.int .i64 b.2.2.2.2) ∧ (World.drew W0).cell? ⟨w.heap.size + 3, 0, none⟩ = some (.bool x1) ∧ (World.drew W0).cell? ⟨w.heap.size + 3, 1, none⟩ = some (.bool x2)) := hide ⟨bR 0 _ rfl, bR 1 _ rfl, bA 0 _ rfl, bA 1 _ rfl, bA 2 _ rfl, bA 3 _ rfl, bA 4 _ rfl, bB 0 _ rfl, bB 1 _ rfl, bB 2 _ rfl, bB 3 _ rfl, bB 4 _ rfl, bX 0 _ rfl, bX 1 _ rfl⟩
  go_region_held3 (fun W => W.cell? ⟨w.heap.size, 0, none⟩ = some (.int .i64 mg) ∧ W.cell? ⟨w.heap.size, 1, none⟩ = some (.int .i64 st) ∧ W.cell? ⟨w.heap.size + 1, 0, none⟩ = some (.int .i64 a.1) ∧ W.cell? ⟨w.heap.size + 1, 1, none⟩ = some (.int .i64 a.2.1) ∧ W.cell? ⟨w.heap.size + 1, 2, none⟩ = some (.int .i64 a.2.2.1) ∧ W.cell? ⟨w.heap.size + 1, 3, none⟩ = some (.int .i64 a.2.2.2.1) ∧ W.cell? ⟨w.heap.size + 1, 4, none⟩ = some (.int .i64 a.2.2.2.2) ∧ W.cell? ⟨w.heap.size + 2, 0, none⟩ = some (.int .i64 b.1) ∧ W.cell? ⟨w.heap.size + 2, 1, none⟩ = some (.int .i64 b.2.1) ∧ W.cell? ⟨w.heap.size + 2, 2, none⟩ = some (.int .i64 b.2.2.1) ∧ W.cell? ⟨w.heap.size + 2, 3, none⟩ = some (.int .i64 b.2.2.2.1) ∧ W.cell? ⟨w.heap.size + 2, 4, none⟩ = some (.int .i64 b.2.2.2.2) ∧ W.cell? ⟨w.heap.size + 3, 0, none⟩ = some (.bool x1) ∧ W.cell? ⟨w.heap.size + 3, 1, none⟩ = some (.bool x2)) (first | (with_reducible exact HS.out) | (with_reducible exact HD.out) | ((with_reducible refine ⟨?_, ?_, ?_, ?_, ?_, ?_, ?_, ?_, ?_, ?_, ?_, ?_, ?_, ?_⟩) <;> (repeat (with_reducible refine (World.cell?_setCell_far _ _ _ _ (by first | (simp; done) | (simp; omega))).trans ?_)) <;> first | (with_reducible exact HS.out.1) | (with_reducible exact HS.out.2.1) | (with_reducible exact HS.out.2.2.1) | (with_reducible exact HS.out.2.2.2.1) | (with_reducible exact HS.out.2.2.2.2.1) | (with_reducible exact HS.out.2.2.2.2.2.1) | (with_reducible exact HS.out.2.2.2.2.2.2.1) | (with_reducible exact HS.out.2.2.2.2.2.2.2.1) | (with_reducible exact HS.out.2.2.2.2.2.2.2.2.1) | (with_reducible exact HS.out.2.2.2.2.2.2.2.2.2.1) | (with_reducible exact HS.out.2.2.2.2.2.2.2.2.2.2.1) | (with_reducible exact HS.out.2.2.2.2.2.2.2.2.2.2.2.1) | (with_reducible exact HS.out.2.2.2.2.2.2.2.2.2.2.2.2.1) | (with_reducible exact HS.out.2.2.2.2.2.2.2.2.2.2.2.2.2) | fail) | fail) (first | (go_at_call 51; (with_reducible refine (implHear_any a.1 a.2.1 a.2.2.1 a.2.2.2.1 a.2.2.2.2 x1 b.1 t1 t2 _).mono ?_); rintro e w1 ⟨rfl, hb⟩; have hbb : Below W0.heap.size W0 w1 := Below.trans (by repeat (first | exact Below.refl _ _ | refine Below.drew ?_ | refine Below.alloc ?_ (by first | (simp; done) | (simp; omega)) _)) (Below.mono hb (by simp)); clear hb; have hs1 := hbb.size; replace hr := hr.below hbb (by omega); replace bR := bR.below hbb (by omega); replace bA := bA.below hbb (by omega); replace bB := bB.below hbb (by omega); replace bX := bX.below hbb (by omega); replace bP := bP.below hbb (by omega); replace bPf := bPf.below hbb (by omega); replace bQ := bQ.below hbb (by omega); replace bQf := bQf.below hbb (by omega); replace hB := hB.trans (hbb.mono (by omega)); clear hbb; have HS : Hid (w1.cell? ⟨w.heap.size, 0, none⟩ = some (.int .i64 mg) ∧ w1.cell? ⟨w.heap.size, 1, none⟩ = some (.int .i64 st) ∧ w1.cell? ⟨w.heap.size + 1, 0, none⟩ = some (.int .i64 a.1) ∧ w1.cell? ⟨w.heap.size + 1, 1, none⟩ = some (.int .i64 a.2.1) ∧ w1.cell? ⟨w.heap.size + 1, 2, none⟩ = some (.int .i64 a.2.2.1) ∧ w1.cell? ⟨w.heap.size + 1, 3, none⟩ = some (.int .i64 a.2.2.2.1) ∧ w1.cell? ⟨w.heap.size + 1, 4, none⟩ = some (.int .i64 a.2.2.2.2) ∧ w1.cell? ⟨w.heap.size + 2, 0, none⟩ = some (.int .i64 b.1) ∧ w1.cell? ⟨w.heap.size + 2, 1, none⟩ = some (.int .i64 b.2.1) ∧ w1.cell? ⟨w.heap.size + 2, 2, none⟩ = some (.int .i64 b.2.2.1) ∧ w1.cell? ⟨w.heap.size + 2, 3, none⟩ = some (.int .i64 b.2.2.2.1) ∧ w1.cell? ⟨w.heap.size + 2, 4, none⟩ = some (.int .i64 b.2.2.2.2) ∧ w1.cell? ⟨w.heap.size + 3, 0, none⟩ = some (.bool x1) ∧ w1.cell? ⟨w.heap.size + 3, 1, none⟩ = some (.bool x2)) := hide ⟨bR 0 _ rfl, bR 1 _ rfl, bA 0 _ rfl, bA 1 _ rfl, bA 2 _ rfl, bA 3 _ rfl, bA 4 _ rfl, bB 0 _ rfl, bB 1 _ rfl, bB 2 _ rfl, bB 3 _ rfl, bB 4 _ rfl, bX 0 _ rfl, bX 1 _ rfl⟩) | (go_at_call 52; (with_reducible refine (implStep_any A n c lo hi T OK.out mg st true a.1 a.2.1 (hSeen x1 a.2.2.1 b.1) (hAge x1 a.2.2.2.1) a.2.2.2.2 m1 m2 q1 q2 a1 a2 g1 g2 c5' c6' c7' c8' _ hr (by omega)).mono ?_); rintro e w2 ⟨rfl, hb⟩; have hbb : Below w1.heap.size w1 w2 := Below.trans (by repeat (first | exact Below.refl _ _ | refine Below.drew ?_ | refine Below.alloc ?_ (by first | (simp; done) | (simp; omega)) _)) (Below.mono hb (by simp)); clear hb; have hs2 := hbb.size; replace hr := hr.below hbb (by omega); replace bR := bR.below hbb (by omega); replace bA := bA.below hbb (by omega); replace bB := bB.below hbb (by omega); replace bX := bX.below hbb (by omega); replace bP := bP.below hbb (by omega); replace bPf := bPf.below hbb (by omega); replace bQ := bQ.below hbb (by omega); replace bQf := bQf.below hbb (by omega); replace hB := hB.trans (hbb.mono (by omega)); clear hbb; have HS : Hid (w2.cell? ⟨w.heap.size, 0, none⟩ = some (.int .i64 mg) ∧ w2.cell? ⟨w.heap.size, 1, none⟩ = some (.int .i64 st) ∧ w2.cell? ⟨w.heap.size + 1, 0, none⟩ = some (.int .i64 a.1) ∧ w2.cell? ⟨w.heap.size + 1, 1, none⟩ = some (.int .i64 a.2.1) ∧ w2.cell? ⟨w.heap.size + 1, 2, none⟩ = some (.int .i64 a.2.2.1) ∧ w2.cell? ⟨w.heap.size + 1, 3, none⟩ = some (.int .i64 a.2.2.2.1) ∧ w2.cell? ⟨w.heap.size + 1, 4, none⟩ = some (.int .i64 a.2.2.2.2) ∧ w2.cell? ⟨w.heap.size + 2, 0, none⟩ = some (.int .i64 b.1) ∧ w2.cell? ⟨w.heap.size + 2, 1, none⟩ = some (.int .i64 b.2.1) ∧ w2.cell? ⟨w.heap.size + 2, 2, none⟩ = some (.int .i64 b.2.2.1) ∧ w2.cell? ⟨w.heap.size + 2, 3, none⟩ = some (.int .i64 b.2.2.2.1) ∧ w2.cell? ⟨w.heap.size + 2, 4, none⟩ = some (.int .i64 b.2.2.2.2) ∧ w2.cell? ⟨w.heap.size + 3, 0, none⟩ = some (.bool x1) ∧ w2.cell? ⟨w.heap.size + 3, 1, none⟩ = some (.bool x2)) := hide ⟨bR 0 _ rfl, bR 1 _ rfl, bA 0 _ rfl, bA 1 _ rfl, bA 2 _ rfl, bA 3 _ rfl, bA 4 _ rfl, bB 0 _ rfl, bB 1 _ rfl, bB 2 _ rfl, bB 3 _ rfl, bB 4 _ rfl, bX 0 _ rfl, bX 1 _ rfl⟩) | (go_at_call 51; (with_reducible refine (implHear_any b.1 b.2.1 b.2.2.1 b.2.2.2.1 b.2.2.2.2 x2 a.1 u1 u2 _).mono ?_); rintro e w3 ⟨rfl, hb⟩; have hbb : Below w2.heap.size w2 w3 := Below.trans (by repeat (first | exact Below.refl _ _ | refine Below.drew ?_ | refine Below.alloc ?_ (by first | (simp; done) | (simp; omega)) _)) (Below.mono hb (by simp)); clear hb; have hs3 := hbb.size; replace hr := hr.below hbb (by omega); replace bR := bR.below hbb (by omega); replace bA := bA.below hbb (by omega); replace bB := bB.below hbb (by omega); replace bX := bX.below hbb (by omega); replace bP := bP.below hbb (by omega); replace bPf := bPf.below hbb (by omega); replace bQ := bQ.below hbb (by omega); replace bQf := bQf.below hbb (by omega); replace hB := hB.trans (hbb.mono (by omega)); clear hbb; have HS : Hid (w3.cell? ⟨w.heap.size, 0, none⟩ = some (.int .i64 mg) ∧ w3.cell? ⟨w.heap.size, 1, none⟩ = some (.int .i64 st) ∧ w3.cell? ⟨w.heap.size + 1, 0, none⟩ = some (.int .i64 a.1) ∧ w3.cell? ⟨w.heap.size + 1, 1, none⟩ = some (.int .i64 a.2.1) ∧ w3.cell? ⟨w.heap.size + 1, 2, none⟩ = some (.int .i64 a.2.2.1) ∧ w3.cell? ⟨w.heap.size + 1, 3, none⟩ = some (.int .i64 a.2.2.2.1) ∧ w3.cell? ⟨w.heap.size + 1, 4, none⟩ = some (.int .i64 a.2.2.2.2) ∧ w3.cell? ⟨w.heap.size + 2, 0, none⟩ = some (.int .i64 b.1) ∧ w3.cell? ⟨w.heap.size + 2, 1, none⟩ = some (.int .i64 b.2.1) ∧ w3.cell? ⟨w.heap.size + 2, 2, none⟩ = some (.int .i64 b.2.2.1) ∧ w3.cell? ⟨w.heap.size + 2, 3, none⟩ = some (.int .i64 b.2.2.2.1) ∧ w3.cell? ⟨w.heap.size + 2, 4, none⟩ = some (.int .i64 b.2.2.2.2) ∧ w3.cell? ⟨w.heap.size + 3, 0, none⟩ = some (.bool x1) ∧ w3.cell? ⟨w.heap.size + 3, 1, none⟩ = some (.bool x2)) := hide ⟨bR 0 _ rfl, bR 1 _ rfl, bA 0 _ rfl, bA 1 _ rfl, bA 2 _ rfl, bA 3 _ rfl, bA 4 _ rfl, bB 0 _ rfl, bB 1 _ rfl, bB 2 _ rfl, bB 3 _ rfl, bB 4 _ rfl, bX 0 _ rfl, bX 1 _ rfl⟩) | (go_at_call 52; (with_reducible refine (implStep_any A n c lo hi T OK.out mg st false b.1 b.2.1 (hSeen x2 b.2.2.1 a.1) (hAge x2 b.2.2.2.1) b.2.2.2.2 m1 m2 q1 q2 b1 b2 h1 h2 d5' d6' d7' d8' _ hr (by omega)).mono ?_); rintro e w4 ⟨rfl, hb⟩; have hbb : Below w3.heap.size w3 w4 := Below.trans (by repeat (first | exact Below.refl _ _ | refine Below.drew ?_ | refine Below.alloc ?_ (by first | (simp; done) | (simp; omega)) _)) (Below.mono hb (by simp)); clear hb; have hs4 := hbb.size; replace hr := hr.below hbb (by omega); replace bR := bR.below hbb (by omega); replace bA := bA.below hbb (by omega); replace bB := bB.below hbb (by omega); replace bX := bX.below hbb (by omega); replace bP := bP.below hbb (by omega); replace bPf := bPf.below hbb (by omega); replace bQ := bQ.below hbb (by omega); replace bQf := bQf.below hbb (by omega); replace hB := hB.trans (hbb.mono (by omega)); clear hbb; have np4 : w.heap.size + 4 < w4.heap.size := (by omega); have np5 : w.heap.size + 5 < w4.heap.size := (by omega); have lbP0 := bP 0 _ rfl; have kbP0 := bPf 0; have lbP1 := bP 1 _ rfl; have kbP1 := bPf 1; have lbP2 := bP 2 _ rfl; have kbP2 := bPf 2; have lbP3 := bP 3 _ rfl; have kbP3 := bPf 3; have lbP4 := bP 4 _ rfl; have kbP4 := bPf 4; have lbQ0 := bQ 0 _ rfl; have kbQ0 := bQf 0; have lbQ1 := bQ 1 _ rfl; have kbQ1 := bQf 1; have lbQ2 := bQ 2 _ rfl; have kbQ2 := bQf 2; have lbQ3 := bQ 3 _ rfl; have kbQ3 := bQf 3; have lbQ4 := bQ 4 _ rfl; have kbQ4 := bQf 4; have HS : Hid (w4.cell? ⟨w.heap.size, 0, none⟩ = some (.int .i64 mg) ∧ w4.cell? ⟨w.heap.size, 1, none⟩ = some (.int .i64 st) ∧ w4.cell? ⟨w.heap.size + 1, 0, none⟩ = some (.int .i64 a.1) ∧ w4.cell? ⟨w.heap.size + 1, 1, none⟩ = some (.int .i64 a.2.1) ∧ w4.cell? ⟨w.heap.size + 1, 2, none⟩ = some (.int .i64 a.2.2.1) ∧ w4.cell? ⟨w.heap.size + 1, 3, none⟩ = some (.int .i64 a.2.2.2.1) ∧ w4.cell? ⟨w.heap.size + 1, 4, none⟩ = some (.int .i64 a.2.2.2.2) ∧ w4.cell? ⟨w.heap.size + 2, 0, none⟩ = some (.int .i64 b.1) ∧ w4.cell? ⟨w.heap.size + 2, 1, none⟩ = some (.int .i64 b.2.1) ∧ w4.cell? ⟨w.heap.size + 2, 2, none⟩ = some (.int .i64 b.2.2.1) ∧ w4.cell? ⟨w.heap.size + 2, 3, none⟩ = some (.int .i64 b.2.2.2.1) ∧ w4.cell? ⟨w.heap.size + 2, 4, none⟩ = some (.int .i64 b.2.2.2.2) ∧ w4.cell? ⟨w.heap.size + 3, 0, none⟩ = some (.bool x1) ∧ w4.cell? ⟨w.heap.size + 3, 1, none⟩ = some (.bool x2)) := hide ⟨bR 0 _ rfl, bR 1 _ rfl, bA 0 _ rfl, bA 1 _ rfl, bA 2 _ rfl, bA 3 _ rfl, bA 4 _ rfl, bB 0 _ rfl, bB 1 _ rfl, bB 2 _ rfl, bB 3 _ rfl, bB 4 _ rfl, bX 0 _ rfl, bX 1 _ rfl⟩))
  all_goals go_wp2_with fail
  all_goals refine bodyPost_ret (v := .tuple #[.agg #[.int .i64 (roundC T mg st x1 x2 (a, b)).1.1, .int .i64 (roundC T mg st x1 x2 (a, b)).1.2.1, .int .i64 (roundC T mg st x1 x2 (a, b)).1.2.2.1, .int .i64 (roundC T mg st x1 x2 (a, b)).1.2.2.2.1, .int .i64 (roundC T mg st x1 x2 (a, b)).1.2.2.2.2], .agg #[.int .i64 (roundC T mg st x1 x2 (a, b)).2.1, .int .i64 (roundC T mg st x1 x2 (a, b)).2.2.1, .int .i64 (roundC T mg st x1 x2 (a, b)).2.2.2.1, .int .i64 (roundC T mg st x1 x2 (a, b)).2.2.2.2.1, .int .i64 (roundC T mg st x1 x2 (a, b)).2.2.2.2.2]]) (by simp [results, Tryz.results28, go_sem, lbP0, lbP1, lbP2, lbP3, lbP4, lbQ0, lbQ1, lbQ2, lbQ3, lbQ4, roundC, stepC, hearC]) rfl ⟨rfl, ?_⟩
  all_goals repeat (with_reducible refine Below.setCell ?_ (by simp; try omega) _)
  all_goals exact hB

end Go.Proofs.YtnbahmjimnhfbaaGreatDoor
