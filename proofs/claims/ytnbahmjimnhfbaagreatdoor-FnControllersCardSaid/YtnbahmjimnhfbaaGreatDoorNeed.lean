/-
  RoundsNeeded: the reference's and the program's. No condition but those that each theorem names.
-/
import Derived.Test.YtnbahmjimnhfbaaGreatDoorRound
namespace Go.Proofs.YtnbahmjimnhfbaaGreatDoor
open Go.RowKit
set_option linter.unusedVariables false

def doneC (p : Ctl × Ctl) : Bool := (p.1.1 == p.1.2.1) && (p.2.1 == p.2.2.1)
def rnFrom (T : List (List Bool)) (mg st : Int) : Nat → Int → Ctl × Ctl → Int × Int
  | 0, _, _ => (0, 3)
  | n + 1, k, p => if doneC p = true then (k, 0) else rnFrom T mg st n (k + 1) (roundC T mg st true true p)
def rnV (T : List (List Bool)) (mg st : Int) (a b : Ctl) : Int × Int := if codeC T mg st [a, b] = 0 then rnFrom T mg st 201 0 (a, b) else (0, codeC T mg st [a, b])
theorem rnV_bad {T : List (List Bool)} {mg st : Int} {a b : Ctl} {c : Int} (h : codeC T mg st [a, b] = c) (hc : c ≠ 0) : rnV T mg st a b = (0, c) := by simp [rnV, h, hc]
theorem rnV_ok {T : List (List Bool)} {mg st : Int} {a b : Ctl} (h : codeC T mg st [a, b] = 0) : rnV T mg st a b = rnFrom T mg st 201 0 (a, b) := by simp [rnV, h]
theorem rnFrom_done {T : List (List Bool)} {mg st : Int} {n k : Nat} {p : Ctl × Ctl} (hk : k < 201) (hn : n = 201 - k) (h : doneC p = true) : rnFrom T mg st n k p = ((k : Int), 0) := by
  obtain ⟨m, rfl⟩ : ∃ m, n = m + 1 := ⟨n - 1, by omega⟩
  simp [rnFrom, h]
theorem rnFrom_next {T : List (List Bool)} {mg st : Int} {n k : Nat} {p : Ctl × Ctl} (hk : k < 201) (hn : n = 201 - k) (h : doneC p = false) : rnFrom T mg st n k p = rnFrom T mg st (201 - (k + 1)) ((k + 1 : Nat) : Int) (roundC T mg st true true p) := by
  obtain ⟨m, rfl⟩ : ∃ m, n = m + 1 := ⟨n - 1, by omega⟩
  rw [show 201 - (k + 1) = m by omega]
  simp [rnFrom, h]
/-- What holds of the state behind k rounds. -/
def RnInv (T : List (List Bool)) (mg st : Int) (a b : Ctl) (k : Nat) (q : Ctl × Ctl) : Prop := rnV T mg st a b = rnFrom T mg st (201 - k) k q
theorem rn_start {T : List (List Bool)} {mg st : Int} {a b : Ctl} (h : codeC T mg st [a, b] = 0) : RnInv T mg st a b 0 (a, b) := by
  unfold RnInv; rw [rnV_ok h]; rfl
theorem rn_done {T : List (List Bool)} {mg st : Int} {a b : Ctl} {k : Nat} {q : Ctl × Ctl} (h : RnInv T mg st a b k q) (hk : k < 201) (hd : doneC q = true) : rnV T mg st a b = ((k : Int), 0) := by
  unfold RnInv at h; rw [h]; exact rnFrom_done hk rfl hd
theorem rn_next {T : List (List Bool)} {mg st : Int} {a b : Ctl} {k : Nat} {q : Ctl × Ctl} (h : RnInv T mg st a b k q) (hk : k < 201) (hd : doneC q = false) : RnInv T mg st a b (k + 1) (roundC T mg st true true q) := by
  unfold RnInv at h ⊢; rw [h]; exact rnFrom_next hk rfl hd
theorem rn_end {T : List (List Bool)} {mg st : Int} {a b : Ctl} {q : Ctl × Ctl} (h : RnInv T mg st a b 201 q) : rnV T mg st a b = (0, 3) := by
  unfold RnInv at h; rw [h]; rfl
theorem ret_pair {a b : Int} {p : Int × Int} (h : p = (a, b)) : Ending.returned (.tuple #[.int .i64 a, .int .i64 b]) = .returned (.tuple #[.int .i64 p.1, .int .i64 p.2]) := by rw [h]

set_option maxRecDepth 100000 in
set_option maxHeartbeats 4000000 in
theorem specRoundsNeeded_any (A : Option Addr) (n c lo hi : Nat) (T : List (List Bool)) (hm : n ≤ maxLen) (mg st : Int) (a b : Ctl) (w : World) (hr : RdSS w lo hi A n (rrBool T)) (hhi : hi ≤ w.heap.size) :
    Calls Tryz.prog 10 #[.slice A n c, .agg #[.int .i64 mg, .int .i64 st], .agg #[.int .i64 a.1, .int .i64 a.2.1, .int .i64 a.2.2.1, .int .i64 a.2.2.2.1, .int .i64 a.2.2.2.2], .agg #[.int .i64 b.1, .int .i64 b.2.1, .int .i64 b.2.2.1, .int .i64 b.2.2.2.1, .int .i64 b.2.2.2.2]] w fun e w' => e = .returned (.tuple #[.int .i64 (rnV T mg st a b).1, .int .i64 (rnV T mg st a b).2]) ∧ Below w.heap.size w w' := by
  obtain ⟨cc, hcc⟩ : ∃ cc, codeC T mg st [a, b] = cc := ⟨_, rfl⟩
  have HC := hide hcc
  have HR0 := hide hr
  have HHI := hide hhi
  clear hcc
  by_cases hz : cc = 0
  · skip
    subst hz
    obtain ⟨e0, e1, e2⟩ := codeC_zero HC.out
    have HV := hide (rn_start HC.out)
    have E0 := hide e0
    have E1 := hide e1
    have EA := hide (e2 a (by simp))
    have EB := hide (e2 b (by simp))
    clear e0 e1 e2
    go_enter Tryz.func10, Tryz.ntmps10
    go_wp2_with fail
    obtain ⟨W0, hW0⟩ : ∃ W0 : World, W0 = ((((w.alloc (.cells #[.int .i64 mg, .int .i64 st] 26)).alloc (.cells #[.int .i64 a.1, .int .i64 a.2.1, .int .i64 a.2.2.1, .int .i64 a.2.2.2.1, .int .i64 a.2.2.2.2] 28)).alloc (.cells #[.int .i64 b.1, .int .i64 b.2.1, .int .i64 b.2.2.1, .int .i64 b.2.2.2.1, .int .i64 b.2.2.2.2] 28)).alloc (.cells #[.int .i64 a.1, .int .i64 a.2.1, .int .i64 a.2.2.1, .int .i64 a.2.2.2.1, .int .i64 a.2.2.2.2, .int .i64 b.1, .int .i64 b.2.1, .int .i64 b.2.2.1, .int .i64 b.2.2.2.1, .int .i64 b.2.2.2.2] 28)) := ⟨_, rfl⟩
    rw [← hW0]
    have bR : Box W0 (w.heap.size) [.int .i64 mg, .int .i64 st] := by rw [hW0]; exact (((box_at _ _ _ _ (by simp)).alloc (by simp) _).alloc (by simp; try omega) _).alloc (by simp; try omega) _
    have bA : Box W0 (w.heap.size + 1) [.int .i64 a.1, .int .i64 a.2.1, .int .i64 a.2.2.1, .int .i64 a.2.2.2.1, .int .i64 a.2.2.2.2] := by rw [hW0]; exact ((box_at _ _ _ _ (by simp)).alloc (by simp) _).alloc (by simp; try omega) _
    have bAf : Fz W0 (w.heap.size + 1) := by rw [hW0]; exact ((fz_at _ _ _ _ (by simp)).alloc (by simp) _).alloc (by simp; try omega) _
    have bB : Box W0 (w.heap.size + 2) [.int .i64 b.1, .int .i64 b.2.1, .int .i64 b.2.2.1, .int .i64 b.2.2.2.1, .int .i64 b.2.2.2.2] := by rw [hW0]; exact (box_at _ _ _ _ (by simp)).alloc (by simp) _
    have bBf : Fz W0 (w.heap.size + 2) := by rw [hW0]; exact (fz_at _ _ _ _ (by simp)).alloc (by simp) _
    have bL : Box W0 (w.heap.size + 3) [.int .i64 a.1, .int .i64 a.2.1, .int .i64 a.2.2.1, .int .i64 a.2.2.2.1, .int .i64 a.2.2.2.2, .int .i64 b.1, .int .i64 b.2.1, .int .i64 b.2.2.1, .int .i64 b.2.2.2.1, .int .i64 b.2.2.2.2] := by rw [hW0]; exact box_at _ _ _ _ (by simp)
    have hL : Rd W0 (w.heap.size + 3) (w.heap.size + 3 + 1) 5 (some ⟨w.heap.size + 3, 0, none⟩) 2 (rCtl [a, b]) := by rw [hW0]; exact rd_new _ _ _ 2 5 rfl _ rfl _ (by simp)
    have hB : Below w.heap.size w W0 := by rw [hW0]; exact (by repeat (first | exact Below.refl _ _ | refine Below.drew ?_ | refine Below.alloc ?_ (by first | (simp; done) | (simp; omega)) _))
    have hs0 : w.heap.size + 4 ≤ W0.heap.size := by rw [hW0]; first | (simp; done) | (simp; omega)
    clear hW0
    replace hr := hr.below hB (by omega)
    refine (l18Code_any A n c lo hi T hm mg st _ 2 2 (w.heap.size + 3) (w.heap.size + 3 + 1) [a, b] rfl (by omega) _ hr (by omega) hL (by omega)).mono ?_
    rintro e w1 ⟨rfl, hb⟩
    have hbb : Below W0.heap.size W0 w1 := Below.trans (by repeat (first | exact Below.refl _ _ | refine Below.drew ?_ | refine Below.alloc ?_ (by first | (simp; done) | (simp; omega)) _)) (Below.mono hb (by simp))
    clear hb
    have hs1 := hbb.size
    replace hr := hr.below hbb (by omega)
    replace hL := hL.below hbb (by omega)
    replace bR := bR.below hbb (by omega)
    replace bA := bA.below hbb (by omega)
    replace bAf := bAf.below hbb (by omega)
    replace bB := bB.below hbb (by omega)
    replace bBf := bBf.below hbb (by omega)
    replace bL := bL.below hbb (by omega)
    replace hB := hB.trans (hbb.mono (by omega))
    clear hbb
    rw [HC.out]
    clear hL
    clear bL
    go_wp2_with fail
    go_loopw [11] (fun i wr => ∃ (k : Nat) (q : Ctl × Ctl), k ≤ 201 ∧ i = .int .i64 k ∧ Hid (ctlOkP q.1 = true ∧ ctlOkP q.2 = true ∧ RnInv T mg st a b k q) ∧ Below w.heap.size w wr ∧ w.heap.size + 3 ≤ wr.heap.size ∧ Box wr w.heap.size [.int .i64 mg, .int .i64 st] ∧ Box wr (w.heap.size + 1) [.int .i64 q.1.1, .int .i64 q.1.2.1, .int .i64 q.1.2.2.1, .int .i64 q.1.2.2.2.1, .int .i64 q.1.2.2.2.2] ∧ Fz wr (w.heap.size + 1) ∧ Box wr (w.heap.size + 2) [.int .i64 q.2.1, .int .i64 q.2.2.1, .int .i64 q.2.2.2.1, .int .i64 q.2.2.2.2.1, .int .i64 q.2.2.2.2.2] ∧ Fz wr (w.heap.size + 2)) (fun i _ => 201 - (intOf i).toNat)
    case atStart => exact ⟨0, (a, b), by omega, rfl, hide ⟨EA.out, EB.out, HV.out⟩, hB, by omega, bR, bA, bAf, bB, bBf⟩
    case round =>
      obtain ⟨k, ⟨⟨p0, p1, p2, p3, p4⟩, ⟨q0, q1, q2, q3, q4⟩⟩, hk, rfl, HP, hbr, hsr, bR, bA, bAf, bB, bBf⟩ := hrel
      have HPA := hide HP.out.1
      have HQA := hide HP.out.2.1
      have HV2 := hide HP.out.2.2
      by_cases hlt : k < 201
      · change Box wr (w.heap.size + 1) [.int .i64 p0, .int .i64 p1, .int .i64 p2, .int .i64 p3, .int .i64 p4] at bA
        change Box wr (w.heap.size + 2) [.int .i64 q0, .int .i64 q1, .int .i64 q2, .int .i64 q3, .int .i64 q4] at bB
        cases e1 : (p0 == p1)
        · have hd : doneC ((p0, p1, p2, p3, p4), (q0, q1, q2, q3, q4)) = false := by simp only [doneC, e1, Bool.false_and]
          have lA0 := bA 0 _ rfl
          have lA1 := bA 1 _ rfl
          have lA2 := bA 2 _ rfl
          have lA3 := bA 3 _ rfl
          have lA4 := bA 4 _ rfl
          have lB0 := bB 0 _ rfl
          have lB1 := bB 1 _ rfl
          have lB2 := bB 2 _ rfl
          have lB3 := bB 3 _ rfl
          have lB4 := bB 4 _ rfl
          have fA0 := bAf 0
          have fA1 := bAf 1
          have fA2 := bAf 2
          have fA3 := bAf 3
          have fA4 := bAf 4
          have fB0 := bBf 0
          have fB1 := bBf 1
          have fB2 := bBf 2
          have fB3 := bBf 3
          have fB4 := bBf 4
          have lR0 := bR 0 _ rfl
          have lR1 := bR 1 _ rfl
          have nA : w.heap.size + 1 < wr.heap.size := by omega
          have nB : w.heap.size + 2 < wr.heap.size := by omega
          have nR : w.heap.size < wr.heap.size := by omega
          go_wp2_with fail
          refine (l18Round_any A n c lo hi T E0.out mg st (p0, p1, p2, p3, p4) (q0, q1, q2, q3, q4) true true E1.out HPA.out HQA.out _ (HR0.out.below hbr HHI.out) (Nat.le_trans HHI.out hbr.size)).mono ?_
          rintro e wn ⟨rfl, hb⟩
          have hsn := hb.size
          have hbn := hbr.trans (hb.mono hbr.size)
          replace bR := bR.below hb (by omega)
          replace bA := bA.below hb (by omega)
          replace bAf := bAf.below hb (by omega)
          replace bB := bB.below hb (by omega)
          replace bBf := bBf.below hb (by omega)
          clear hb
          clear lA0 lA1 lA2 lA3 lA4 lB0 lB1 lB2 lB3 lB4 fA0 fA1 fA2 fA3 fA4 fB0 fB1 fB2 fB3 fB4 lR0 lR1
          have lA0 := bA 0 _ rfl
          have lA1 := bA 1 _ rfl
          have lA2 := bA 2 _ rfl
          have lA3 := bA 3 _ rfl
          have lA4 := bA 4 _ rfl
          have lB0 := bB 0 _ rfl
          have lB1 := bB 1 _ rfl
          have lB2 := bB 2 _ rfl
          have lB3 := bB 3 _ rfl
          have lB4 := bB 4 _ rfl
          have fA0 := bAf 0
          have fA1 := bAf 1
          have fA2 := bAf 2
          have fA3 := bAf 3
          have fA4 := bAf 4
          have fB0 := bBf 0
          have fB1 := bBf 1
          have fB2 := bBf 2
          have fB3 := bBf 3
          have fB4 := bBf 4
          have lR0 := bR 0 _ rfl
          have lR1 := bR 1 _ rfl
          have nA : w.heap.size + 1 < wn.heap.size := by omega
          have nB : w.heap.size + 2 < wn.heap.size := by omega
          have nR : w.heap.size < wn.heap.size := by omega
          go_wp2_with fail
          go_roundw
          case rel =>
            have HOK := roundC_ok (T := T) (mg := mg) (st := st) (x1 := true) (x2 := true) (p := ((p0, p1, p2, p3, p4), (q0, q1, q2, q3, q4))) HPA.out HQA.out
            refine ⟨k + 1, roundC T mg st true true ((p0, p1, p2, p3, p4), (q0, q1, q2, q3, q4)), by omega, by go_num, hide ⟨HOK.1, HOK.2, rn_next HV2.out hlt hd⟩, ?_, by simp [World.setCell]; omega, ?_, ?_, ?_, ?_, ?_⟩
            · repeat (with_reducible refine Below.setCell ?_ (by simp; try omega) _)
              exact hbn
            · exact (Box.far (Box.far (Box.far (Box.far (Box.far (Box.far (Box.far (Box.far (Box.far (Box.far bR _ _ (by simp; try omega)) _ _ (by simp; try omega)) _ _ (by simp; try omega)) _ _ (by simp; try omega)) _ _ (by simp; try omega)) _ _ (by simp; try omega)) _ _ (by simp; try omega)) _ _ (by simp; try omega)) _ _ (by simp; try omega)) _ _ (by simp; try omega))
            · exact (Box.far (Box.far (Box.far (Box.far (Box.far (Box.put (Box.put (Box.put (Box.put (Box.put bA 0 _ (by simp)) 1 _ (by simp)) 2 _ (by simp)) 3 _ (by simp)) 4 _ (by simp)) _ _ (by simp; try omega)) _ _ (by simp; try omega)) _ _ (by simp; try omega)) _ _ (by simp; try omega)) _ _ (by simp; try omega))
            · exact ((((((((((bAf.set _ _).set _ _).set _ _).set _ _).set _ _).set _ _).set _ _).set _ _).set _ _).set _ _)
            · exact (Box.put (Box.put (Box.put (Box.put (Box.put (Box.far (Box.far (Box.far (Box.far (Box.far bB _ _ (by simp; try omega)) _ _ (by simp; try omega)) _ _ (by simp; try omega)) _ _ (by simp; try omega)) _ _ (by simp; try omega)) 0 _ (by simp)) 1 _ (by simp)) 2 _ (by simp)) 3 _ (by simp)) 4 _ (by simp))
            · exact ((((((((((bBf.set _ _).set _ _).set _ _).set _ _).set _ _).set _ _).set _ _).set _ _).set _ _).set _ _)
          case measure => simp [intOf]; omega
        · obtain rfl : p0 = p1 := by simpa using e1
          cases e2 : (q0 == q1)
          · have hd : doneC ((p0, p0, p2, p3, p4), (q0, q1, q2, q3, q4)) = false := by simp only [doneC, e2, Bool.and_false]
            have lA0 := bA 0 _ rfl
            have lA1 := bA 1 _ rfl
            have lA2 := bA 2 _ rfl
            have lA3 := bA 3 _ rfl
            have lA4 := bA 4 _ rfl
            have lB0 := bB 0 _ rfl
            have lB1 := bB 1 _ rfl
            have lB2 := bB 2 _ rfl
            have lB3 := bB 3 _ rfl
            have lB4 := bB 4 _ rfl
            have fA0 := bAf 0
            have fA1 := bAf 1
            have fA2 := bAf 2
            have fA3 := bAf 3
            have fA4 := bAf 4
            have fB0 := bBf 0
            have fB1 := bBf 1
            have fB2 := bBf 2
            have fB3 := bBf 3
            have fB4 := bBf 4
            have lR0 := bR 0 _ rfl
            have lR1 := bR 1 _ rfl
            have nA : w.heap.size + 1 < wr.heap.size := by omega
            have nB : w.heap.size + 2 < wr.heap.size := by omega
            have nR : w.heap.size < wr.heap.size := by omega
            go_wp2_with fail
            refine (l18Round_any A n c lo hi T E0.out mg st (p0, p0, p2, p3, p4) (q0, q1, q2, q3, q4) true true E1.out HPA.out HQA.out _ (HR0.out.below hbr HHI.out) (Nat.le_trans HHI.out hbr.size)).mono ?_
            rintro e wn ⟨rfl, hb⟩
            have hsn := hb.size
            have hbn := hbr.trans (hb.mono hbr.size)
            replace bR := bR.below hb (by omega)
            replace bA := bA.below hb (by omega)
            replace bAf := bAf.below hb (by omega)
            replace bB := bB.below hb (by omega)
            replace bBf := bBf.below hb (by omega)
            clear hb
            clear lA0 lA1 lA2 lA3 lA4 lB0 lB1 lB2 lB3 lB4 fA0 fA1 fA2 fA3 fA4 fB0 fB1 fB2 fB3 fB4 lR0 lR1
            have lA0 := bA 0 _ rfl
            have lA1 := bA 1 _ rfl
            have lA2 := bA 2 _ rfl
            have lA3 := bA 3 _ rfl
            have lA4 := bA 4 _ rfl
            have lB0 := bB 0 _ rfl
            have lB1 := bB 1 _ rfl
            have lB2 := bB 2 _ rfl
            have lB3 := bB 3 _ rfl
            have lB4 := bB 4 _ rfl
            have fA0 := bAf 0
            have fA1 := bAf 1
            have fA2 := bAf 2
            have fA3 := bAf 3
            have fA4 := bAf 4
            have fB0 := bBf 0
            have fB1 := bBf 1
            have fB2 := bBf 2
            have fB3 := bBf 3
            have fB4 := bBf 4
            have lR0 := bR 0 _ rfl
            have lR1 := bR 1 _ rfl
            have nA : w.heap.size + 1 < wn.heap.size := by omega
            have nB : w.heap.size + 2 < wn.heap.size := by omega
            have nR : w.heap.size < wn.heap.size := by omega
            go_wp2_with fail
            go_roundw
            case rel =>
              have HOK := roundC_ok (T := T) (mg := mg) (st := st) (x1 := true) (x2 := true) (p := ((p0, p0, p2, p3, p4), (q0, q1, q2, q3, q4))) HPA.out HQA.out
              refine ⟨k + 1, roundC T mg st true true ((p0, p0, p2, p3, p4), (q0, q1, q2, q3, q4)), by omega, by go_num, hide ⟨HOK.1, HOK.2, rn_next HV2.out hlt hd⟩, ?_, by simp [World.setCell]; omega, ?_, ?_, ?_, ?_, ?_⟩
              · repeat (with_reducible refine Below.setCell ?_ (by simp; try omega) _)
                exact hbn
              · exact (Box.far (Box.far (Box.far (Box.far (Box.far (Box.far (Box.far (Box.far (Box.far (Box.far bR _ _ (by simp; try omega)) _ _ (by simp; try omega)) _ _ (by simp; try omega)) _ _ (by simp; try omega)) _ _ (by simp; try omega)) _ _ (by simp; try omega)) _ _ (by simp; try omega)) _ _ (by simp; try omega)) _ _ (by simp; try omega)) _ _ (by simp; try omega))
              · exact (Box.far (Box.far (Box.far (Box.far (Box.far (Box.put (Box.put (Box.put (Box.put (Box.put bA 0 _ (by simp)) 1 _ (by simp)) 2 _ (by simp)) 3 _ (by simp)) 4 _ (by simp)) _ _ (by simp; try omega)) _ _ (by simp; try omega)) _ _ (by simp; try omega)) _ _ (by simp; try omega)) _ _ (by simp; try omega))
              · exact ((((((((((bAf.set _ _).set _ _).set _ _).set _ _).set _ _).set _ _).set _ _).set _ _).set _ _).set _ _)
              · exact (Box.put (Box.put (Box.put (Box.put (Box.put (Box.far (Box.far (Box.far (Box.far (Box.far bB _ _ (by simp; try omega)) _ _ (by simp; try omega)) _ _ (by simp; try omega)) _ _ (by simp; try omega)) _ _ (by simp; try omega)) 0 _ (by simp)) 1 _ (by simp)) 2 _ (by simp)) 3 _ (by simp)) 4 _ (by simp))
              · exact ((((((((((bBf.set _ _).set _ _).set _ _).set _ _).set _ _).set _ _).set _ _).set _ _).set _ _).set _ _)
            case measure => simp [intOf]; omega
          · obtain rfl : q0 = q1 := by simpa using e2
            have hd : doneC ((p0, p0, p2, p3, p4), (q0, q0, q2, q3, q4)) = true := by simp [doneC]
            have HD := hide (rn_done HV2.out hlt hd)
            clear hd
            have lA0 := bA 0 _ rfl
            have lA1 := bA 1 _ rfl
            have lA2 := bA 2 _ rfl
            have lA3 := bA 3 _ rfl
            have lA4 := bA 4 _ rfl
            have lB0 := bB 0 _ rfl
            have lB1 := bB 1 _ rfl
            have lB2 := bB 2 _ rfl
            have lB3 := bB 3 _ rfl
            have lB4 := bB 4 _ rfl
            have fA0 := bAf 0
            have fA1 := bAf 1
            have fA2 := bAf 2
            have fA3 := bAf 3
            have fA4 := bAf 4
            have fB0 := bBf 0
            have fB1 := bBf 1
            have fB2 := bBf 2
            have fB3 := bBf 3
            have fB4 := bBf 4
            have lR0 := bR 0 _ rfl
            have lR1 := bR 1 _ rfl
            have nA : w.heap.size + 1 < wr.heap.size := by omega
            have nB : w.heap.size + 2 < wr.heap.size := by omega
            have nR : w.heap.size < wr.heap.size := by omega
            go_wp2_with fail
            go_ret2
            exact ⟨ret_pair HD.out, hbr⟩
      · obtain rfl : k = 201 := by omega
        go_wp2_with fail
        go_ret2
        exact ⟨ret_pair (rn_end HV2.out), hbr⟩
  · skip
    have HV := hide (rnV_bad HC.out hz)
    have hz2 : (cc == 0) = false := by simpa using hz
    have hz3 : (cc != 0) = true := by simpa using hz
    go_enter Tryz.func10, Tryz.ntmps10
    go_wp2_with fail
    obtain ⟨W0, hW0⟩ : ∃ W0 : World, W0 = ((((w.alloc (.cells #[.int .i64 mg, .int .i64 st] 26)).alloc (.cells #[.int .i64 a.1, .int .i64 a.2.1, .int .i64 a.2.2.1, .int .i64 a.2.2.2.1, .int .i64 a.2.2.2.2] 28)).alloc (.cells #[.int .i64 b.1, .int .i64 b.2.1, .int .i64 b.2.2.1, .int .i64 b.2.2.2.1, .int .i64 b.2.2.2.2] 28)).alloc (.cells #[.int .i64 a.1, .int .i64 a.2.1, .int .i64 a.2.2.1, .int .i64 a.2.2.2.1, .int .i64 a.2.2.2.2, .int .i64 b.1, .int .i64 b.2.1, .int .i64 b.2.2.1, .int .i64 b.2.2.2.1, .int .i64 b.2.2.2.2] 28)) := ⟨_, rfl⟩
    rw [← hW0]
    have bR : Box W0 (w.heap.size) [.int .i64 mg, .int .i64 st] := by rw [hW0]; exact (((box_at _ _ _ _ (by simp)).alloc (by simp) _).alloc (by simp; try omega) _).alloc (by simp; try omega) _
    have bA : Box W0 (w.heap.size + 1) [.int .i64 a.1, .int .i64 a.2.1, .int .i64 a.2.2.1, .int .i64 a.2.2.2.1, .int .i64 a.2.2.2.2] := by rw [hW0]; exact ((box_at _ _ _ _ (by simp)).alloc (by simp) _).alloc (by simp; try omega) _
    have bAf : Fz W0 (w.heap.size + 1) := by rw [hW0]; exact ((fz_at _ _ _ _ (by simp)).alloc (by simp) _).alloc (by simp; try omega) _
    have bB : Box W0 (w.heap.size + 2) [.int .i64 b.1, .int .i64 b.2.1, .int .i64 b.2.2.1, .int .i64 b.2.2.2.1, .int .i64 b.2.2.2.2] := by rw [hW0]; exact (box_at _ _ _ _ (by simp)).alloc (by simp) _
    have bBf : Fz W0 (w.heap.size + 2) := by rw [hW0]; exact (fz_at _ _ _ _ (by simp)).alloc (by simp) _
    have bL : Box W0 (w.heap.size + 3) [.int .i64 a.1, .int .i64 a.2.1, .int .i64 a.2.2.1, .int .i64 a.2.2.2.1, .int .i64 a.2.2.2.2, .int .i64 b.1, .int .i64 b.2.1, .int .i64 b.2.2.1, .int .i64 b.2.2.2.1, .int .i64 b.2.2.2.2] := by rw [hW0]; exact box_at _ _ _ _ (by simp)
    have hL : Rd W0 (w.heap.size + 3) (w.heap.size + 3 + 1) 5 (some ⟨w.heap.size + 3, 0, none⟩) 2 (rCtl [a, b]) := by rw [hW0]; exact rd_new _ _ _ 2 5 rfl _ rfl _ (by simp)
    have hB : Below w.heap.size w W0 := by rw [hW0]; exact (by repeat (first | exact Below.refl _ _ | refine Below.drew ?_ | refine Below.alloc ?_ (by first | (simp; done) | (simp; omega)) _))
    have hs0 : w.heap.size + 4 ≤ W0.heap.size := by rw [hW0]; first | (simp; done) | (simp; omega)
    clear hW0
    replace hr := hr.below hB (by omega)
    refine (l18Code_any A n c lo hi T hm mg st _ 2 2 (w.heap.size + 3) (w.heap.size + 3 + 1) [a, b] rfl (by omega) _ hr (by omega) hL (by omega)).mono ?_
    rintro e w1 ⟨rfl, hb⟩
    have hbb : Below W0.heap.size W0 w1 := Below.trans (by repeat (first | exact Below.refl _ _ | refine Below.drew ?_ | refine Below.alloc ?_ (by first | (simp; done) | (simp; omega)) _)) (Below.mono hb (by simp))
    clear hb
    have hs1 := hbb.size
    replace hr := hr.below hbb (by omega)
    replace hL := hL.below hbb (by omega)
    replace bR := bR.below hbb (by omega)
    replace bA := bA.below hbb (by omega)
    replace bAf := bAf.below hbb (by omega)
    replace bB := bB.below hbb (by omega)
    replace bBf := bBf.below hbb (by omega)
    replace bL := bL.below hbb (by omega)
    replace hB := hB.trans (hbb.mono (by omega))
    clear hbb
    rw [HC.out]
    clear hL
    clear bL
    go_wp2_with fail
    go_ret2
    exact ⟨ret_pair HV.out, hB⟩

set_option maxRecDepth 100000 in
set_option maxHeartbeats 4000000 in
theorem implRoundsNeeded_any (A : Option Addr) (n c lo hi : Nat) (T : List (List Bool)) (hm : n ≤ maxLen) (mg st : Int) (a b : Ctl) (w : World) (hr : RdSS w lo hi A n (rrBool T)) (hhi : hi ≤ w.heap.size) :
    Calls Tryz.prog 9 #[.slice A n c, .agg #[.int .i64 mg, .int .i64 st], .agg #[.int .i64 a.1, .int .i64 a.2.1, .int .i64 a.2.2.1, .int .i64 a.2.2.2.1, .int .i64 a.2.2.2.2], .agg #[.int .i64 b.1, .int .i64 b.2.1, .int .i64 b.2.2.1, .int .i64 b.2.2.2.1, .int .i64 b.2.2.2.2]] w fun e w' => e = .returned (.tuple #[.int .i64 (rnV T mg st a b).1, .int .i64 (rnV T mg st a b).2]) ∧ Below w.heap.size w w' := by
  obtain ⟨cc, hcc⟩ : ∃ cc, codeC T mg st [a, b] = cc := ⟨_, rfl⟩
  have HC := hide hcc
  have HR0 := hide hr
  have HHI := hide hhi
  clear hcc
  by_cases hz : cc = 0
  · skip
    subst hz
    obtain ⟨e0, e1, e2⟩ := codeC_zero HC.out
    have HV := hide (rn_start HC.out)
    have E0 := hide e0
    have E1 := hide e1
    have EA := hide (e2 a (by simp))
    have EB := hide (e2 b (by simp))
    clear e0 e1 e2
    go_enter Tryz.func9, Tryz.ntmps9
    go_wp2_with fail
    obtain ⟨W0, hW0⟩ : ∃ W0 : World, W0 = ((((w.alloc (.cells #[.int .i64 mg, .int .i64 st] 26)).alloc (.cells #[.int .i64 a.1, .int .i64 a.2.1, .int .i64 a.2.2.1, .int .i64 a.2.2.2.1, .int .i64 a.2.2.2.2] 28)).alloc (.cells #[.int .i64 b.1, .int .i64 b.2.1, .int .i64 b.2.2.1, .int .i64 b.2.2.2.1, .int .i64 b.2.2.2.2] 28)).alloc (.cells #[.int .i64 a.1, .int .i64 a.2.1, .int .i64 a.2.2.1, .int .i64 a.2.2.2.1, .int .i64 a.2.2.2.2, .int .i64 b.1, .int .i64 b.2.1, .int .i64 b.2.2.1, .int .i64 b.2.2.2.1, .int .i64 b.2.2.2.2] 28)) := ⟨_, rfl⟩
    rw [← hW0]
    have bR : Box W0 (w.heap.size) [.int .i64 mg, .int .i64 st] := by rw [hW0]; exact (((box_at _ _ _ _ (by simp)).alloc (by simp) _).alloc (by simp; try omega) _).alloc (by simp; try omega) _
    have bA : Box W0 (w.heap.size + 1) [.int .i64 a.1, .int .i64 a.2.1, .int .i64 a.2.2.1, .int .i64 a.2.2.2.1, .int .i64 a.2.2.2.2] := by rw [hW0]; exact ((box_at _ _ _ _ (by simp)).alloc (by simp) _).alloc (by simp; try omega) _
    have bAf : Fz W0 (w.heap.size + 1) := by rw [hW0]; exact ((fz_at _ _ _ _ (by simp)).alloc (by simp) _).alloc (by simp; try omega) _
    have bB : Box W0 (w.heap.size + 2) [.int .i64 b.1, .int .i64 b.2.1, .int .i64 b.2.2.1, .int .i64 b.2.2.2.1, .int .i64 b.2.2.2.2] := by rw [hW0]; exact (box_at _ _ _ _ (by simp)).alloc (by simp) _
    have bBf : Fz W0 (w.heap.size + 2) := by rw [hW0]; exact (fz_at _ _ _ _ (by simp)).alloc (by simp) _
    have bL : Box W0 (w.heap.size + 3) [.int .i64 a.1, .int .i64 a.2.1, .int .i64 a.2.2.1, .int .i64 a.2.2.2.1, .int .i64 a.2.2.2.2, .int .i64 b.1, .int .i64 b.2.1, .int .i64 b.2.2.1, .int .i64 b.2.2.2.1, .int .i64 b.2.2.2.2] := by rw [hW0]; exact box_at _ _ _ _ (by simp)
    have hL : Rd W0 (w.heap.size + 3) (w.heap.size + 3 + 1) 5 (some ⟨w.heap.size + 3, 0, none⟩) 2 (rCtl [a, b]) := by rw [hW0]; exact rd_new _ _ _ 2 5 rfl _ rfl _ (by simp)
    have hB : Below w.heap.size w W0 := by rw [hW0]; exact (by repeat (first | exact Below.refl _ _ | refine Below.drew ?_ | refine Below.alloc ?_ (by first | (simp; done) | (simp; omega)) _))
    have hs0 : w.heap.size + 4 ≤ W0.heap.size := by rw [hW0]; first | (simp; done) | (simp; omega)
    clear hW0
    replace hr := hr.below hB (by omega)
    refine (controlCode_any A n c lo hi T hm mg st _ 2 2 (w.heap.size + 3) (w.heap.size + 3 + 1) [a, b] rfl (by omega) _ hr (by omega) hL (by omega)).mono ?_
    rintro e w1 ⟨rfl, hb⟩
    have hbb : Below W0.heap.size W0 w1 := Below.trans (by repeat (first | exact Below.refl _ _ | refine Below.drew ?_ | refine Below.alloc ?_ (by first | (simp; done) | (simp; omega)) _)) (Below.mono hb (by simp))
    clear hb
    have hs1 := hbb.size
    replace hr := hr.below hbb (by omega)
    replace hL := hL.below hbb (by omega)
    replace bR := bR.below hbb (by omega)
    replace bA := bA.below hbb (by omega)
    replace bAf := bAf.below hbb (by omega)
    replace bB := bB.below hbb (by omega)
    replace bBf := bBf.below hbb (by omega)
    replace bL := bL.below hbb (by omega)
    replace hB := hB.trans (hbb.mono (by omega))
    clear hbb
    rw [HC.out]
    clear hL
    clear bL
    go_wp2_with fail
    go_loopw [21] (fun i wr => ∃ (k : Nat) (q : Ctl × Ctl), k ≤ 201 ∧ i = .int .i64 k ∧ Hid (ctlOkP q.1 = true ∧ ctlOkP q.2 = true ∧ RnInv T mg st a b k q) ∧ Below w.heap.size w wr ∧ w.heap.size + 3 ≤ wr.heap.size ∧ Box wr w.heap.size [.int .i64 mg, .int .i64 st] ∧ Box wr (w.heap.size + 1) [.int .i64 q.1.1, .int .i64 q.1.2.1, .int .i64 q.1.2.2.1, .int .i64 q.1.2.2.2.1, .int .i64 q.1.2.2.2.2] ∧ Fz wr (w.heap.size + 1) ∧ Box wr (w.heap.size + 2) [.int .i64 q.2.1, .int .i64 q.2.2.1, .int .i64 q.2.2.2.1, .int .i64 q.2.2.2.2.1, .int .i64 q.2.2.2.2.2] ∧ Fz wr (w.heap.size + 2)) (fun i _ => 201 - (intOf i).toNat)
    case atStart => exact ⟨0, (a, b), by omega, rfl, hide ⟨EA.out, EB.out, HV.out⟩, hB, by omega, bR, bA, bAf, bB, bBf⟩
    case round =>
      obtain ⟨k, ⟨⟨p0, p1, p2, p3, p4⟩, ⟨q0, q1, q2, q3, q4⟩⟩, hk, rfl, HP, hbr, hsr, bR, bA, bAf, bB, bBf⟩ := hrel
      have HPA := hide HP.out.1
      have HQA := hide HP.out.2.1
      have HV2 := hide HP.out.2.2
      by_cases hlt : k < 201
      · change Box wr (w.heap.size + 1) [.int .i64 p0, .int .i64 p1, .int .i64 p2, .int .i64 p3, .int .i64 p4] at bA
        change Box wr (w.heap.size + 2) [.int .i64 q0, .int .i64 q1, .int .i64 q2, .int .i64 q3, .int .i64 q4] at bB
        cases e1 : (p0 == p1)
        · have hd : doneC ((p0, p1, p2, p3, p4), (q0, q1, q2, q3, q4)) = false := by simp only [doneC, e1, Bool.false_and]
          have lA0 := bA 0 _ rfl
          have lA1 := bA 1 _ rfl
          have lA2 := bA 2 _ rfl
          have lA3 := bA 3 _ rfl
          have lA4 := bA 4 _ rfl
          have lB0 := bB 0 _ rfl
          have lB1 := bB 1 _ rfl
          have lB2 := bB 2 _ rfl
          have lB3 := bB 3 _ rfl
          have lB4 := bB 4 _ rfl
          have fA0 := bAf 0
          have fA1 := bAf 1
          have fA2 := bAf 2
          have fA3 := bAf 3
          have fA4 := bAf 4
          have fB0 := bBf 0
          have fB1 := bBf 1
          have fB2 := bBf 2
          have fB3 := bBf 3
          have fB4 := bBf 4
          have lR0 := bR 0 _ rfl
          have lR1 := bR 1 _ rfl
          have nA : w.heap.size + 1 < wr.heap.size := by omega
          have nB : w.heap.size + 2 < wr.heap.size := by omega
          have nR : w.heap.size < wr.heap.size := by omega
          go_wp2_with fail
          refine (implRound_any A n c lo hi T E0.out mg st (p0, p1, p2, p3, p4) (q0, q1, q2, q3, q4) true true E1.out HPA.out HQA.out _ (HR0.out.below hbr HHI.out) (Nat.le_trans HHI.out hbr.size)).mono ?_
          rintro e wn ⟨rfl, hb⟩
          have hsn := hb.size
          have hbn := hbr.trans (hb.mono hbr.size)
          replace bR := bR.below hb (by omega)
          replace bA := bA.below hb (by omega)
          replace bAf := bAf.below hb (by omega)
          replace bB := bB.below hb (by omega)
          replace bBf := bBf.below hb (by omega)
          clear hb
          clear lA0 lA1 lA2 lA3 lA4 lB0 lB1 lB2 lB3 lB4 fA0 fA1 fA2 fA3 fA4 fB0 fB1 fB2 fB3 fB4 lR0 lR1
          have lA0 := bA 0 _ rfl
          have lA1 := bA 1 _ rfl
          have lA2 := bA 2 _ rfl
          have lA3 := bA 3 _ rfl
          have lA4 := bA 4 _ rfl
          have lB0 := bB 0 _ rfl
          have lB1 := bB 1 _ rfl
          have lB2 := bB 2 _ rfl
          have lB3 := bB 3 _ rfl
          have lB4 := bB 4 _ rfl
          have fA0 := bAf 0
          have fA1 := bAf 1
          have fA2 := bAf 2
          have fA3 := bAf 3
          have fA4 := bAf 4
          have fB0 := bBf 0
          have fB1 := bBf 1
          have fB2 := bBf 2
          have fB3 := bBf 3
          have fB4 := bBf 4
          have lR0 := bR 0 _ rfl
          have lR1 := bR 1 _ rfl
          have nA : w.heap.size + 1 < wn.heap.size := by omega
          have nB : w.heap.size + 2 < wn.heap.size := by omega
          have nR : w.heap.size < wn.heap.size := by omega
          go_wp2_with fail
          go_roundw
          case rel =>
            have HOK := roundC_ok (T := T) (mg := mg) (st := st) (x1 := true) (x2 := true) (p := ((p0, p1, p2, p3, p4), (q0, q1, q2, q3, q4))) HPA.out HQA.out
            refine ⟨k + 1, roundC T mg st true true ((p0, p1, p2, p3, p4), (q0, q1, q2, q3, q4)), by omega, by go_num, hide ⟨HOK.1, HOK.2, rn_next HV2.out hlt hd⟩, ?_, by simp [World.setCell]; omega, ?_, ?_, ?_, ?_, ?_⟩
            · repeat (with_reducible refine Below.setCell ?_ (by simp; try omega) _)
              exact hbn
            · exact (Box.far (Box.far (Box.far (Box.far (Box.far (Box.far (Box.far (Box.far (Box.far (Box.far bR _ _ (by simp; try omega)) _ _ (by simp; try omega)) _ _ (by simp; try omega)) _ _ (by simp; try omega)) _ _ (by simp; try omega)) _ _ (by simp; try omega)) _ _ (by simp; try omega)) _ _ (by simp; try omega)) _ _ (by simp; try omega)) _ _ (by simp; try omega))
            · exact (Box.far (Box.far (Box.far (Box.far (Box.far (Box.put (Box.put (Box.put (Box.put (Box.put bA 0 _ (by simp)) 1 _ (by simp)) 2 _ (by simp)) 3 _ (by simp)) 4 _ (by simp)) _ _ (by simp; try omega)) _ _ (by simp; try omega)) _ _ (by simp; try omega)) _ _ (by simp; try omega)) _ _ (by simp; try omega))
            · exact ((((((((((bAf.set _ _).set _ _).set _ _).set _ _).set _ _).set _ _).set _ _).set _ _).set _ _).set _ _)
            · exact (Box.put (Box.put (Box.put (Box.put (Box.put (Box.far (Box.far (Box.far (Box.far (Box.far bB _ _ (by simp; try omega)) _ _ (by simp; try omega)) _ _ (by simp; try omega)) _ _ (by simp; try omega)) _ _ (by simp; try omega)) 0 _ (by simp)) 1 _ (by simp)) 2 _ (by simp)) 3 _ (by simp)) 4 _ (by simp))
            · exact ((((((((((bBf.set _ _).set _ _).set _ _).set _ _).set _ _).set _ _).set _ _).set _ _).set _ _).set _ _)
          case measure => simp [intOf]; omega
        · obtain rfl : p0 = p1 := by simpa using e1
          cases e2 : (q0 == q1)
          · have hd : doneC ((p0, p0, p2, p3, p4), (q0, q1, q2, q3, q4)) = false := by simp only [doneC, e2, Bool.and_false]
            have lA0 := bA 0 _ rfl
            have lA1 := bA 1 _ rfl
            have lA2 := bA 2 _ rfl
            have lA3 := bA 3 _ rfl
            have lA4 := bA 4 _ rfl
            have lB0 := bB 0 _ rfl
            have lB1 := bB 1 _ rfl
            have lB2 := bB 2 _ rfl
            have lB3 := bB 3 _ rfl
            have lB4 := bB 4 _ rfl
            have fA0 := bAf 0
            have fA1 := bAf 1
            have fA2 := bAf 2
            have fA3 := bAf 3
            have fA4 := bAf 4
            have fB0 := bBf 0
            have fB1 := bBf 1
            have fB2 := bBf 2
            have fB3 := bBf 3
            have fB4 := bBf 4
            have lR0 := bR 0 _ rfl
            have lR1 := bR 1 _ rfl
            have nA : w.heap.size + 1 < wr.heap.size := by omega
            have nB : w.heap.size + 2 < wr.heap.size := by omega
            have nR : w.heap.size < wr.heap.size := by omega
            go_wp2_with fail
            refine (implRound_any A n c lo hi T E0.out mg st (p0, p0, p2, p3, p4) (q0, q1, q2, q3, q4) true true E1.out HPA.out HQA.out _ (HR0.out.below hbr HHI.out) (Nat.le_trans HHI.out hbr.size)).mono ?_
            rintro e wn ⟨rfl, hb⟩
            have hsn := hb.size
            have hbn := hbr.trans (hb.mono hbr.size)
            replace bR := bR.below hb (by omega)
            replace bA := bA.below hb (by omega)
            replace bAf := bAf.below hb (by omega)
            replace bB := bB.below hb (by omega)
            replace bBf := bBf.below hb (by omega)
            clear hb
            clear lA0 lA1 lA2 lA3 lA4 lB0 lB1 lB2 lB3 lB4 fA0 fA1 fA2 fA3 fA4 fB0 fB1 fB2 fB3 fB4 lR0 lR1
            have lA0 := bA 0 _ rfl
            have lA1 := bA 1 _ rfl
            have lA2 := bA 2 _ rfl
            have lA3 := bA 3 _ rfl
            have lA4 := bA 4 _ rfl
            have lB0 := bB 0 _ rfl
            have lB1 := bB 1 _ rfl
            have lB2 := bB 2 _ rfl
            have lB3 := bB 3 _ rfl
            have lB4 := bB 4 _ rfl
            have fA0 := bAf 0
            have fA1 := bAf 1
            have fA2 := bAf 2
            have fA3 := bAf 3
            have fA4 := bAf 4
            have fB0 := bBf 0
            have fB1 := bBf 1
            have fB2 := bBf 2
            have fB3 := bBf 3
            have fB4 := bBf 4
            have lR0 := bR 0 _ rfl
            have lR1 := bR 1 _ rfl
            have nA : w.heap.size + 1 < wn.heap.size := by omega
            have nB : w.heap.size + 2 < wn.heap.size := by omega
            have nR : w.heap.size < wn.heap.size := by omega
            go_wp2_with fail
            go_roundw
            case rel =>
              have HOK := roundC_ok (T := T) (mg := mg) (st := st) (x1 := true) (x2 := true) (p := ((p0, p0, p2, p3, p4), (q0, q1, q2, q3, q4))) HPA.out HQA.out
              refine ⟨k + 1, roundC T mg st true true ((p0, p0, p2, p3, p4), (q0, q1, q2, q3, q4)), by omega, by go_num, hide ⟨HOK.1, HOK.2, rn_next HV2.out hlt hd⟩, ?_, by simp [World.setCell]; omega, ?_, ?_, ?_, ?_, ?_⟩
              · repeat (with_reducible refine Below.setCell ?_ (by simp; try omega) _)
                exact hbn
              · exact (Box.far (Box.far (Box.far (Box.far (Box.far (Box.far (Box.far (Box.far (Box.far (Box.far bR _ _ (by simp; try omega)) _ _ (by simp; try omega)) _ _ (by simp; try omega)) _ _ (by simp; try omega)) _ _ (by simp; try omega)) _ _ (by simp; try omega)) _ _ (by simp; try omega)) _ _ (by simp; try omega)) _ _ (by simp; try omega)) _ _ (by simp; try omega))
              · exact (Box.far (Box.far (Box.far (Box.far (Box.far (Box.put (Box.put (Box.put (Box.put (Box.put bA 0 _ (by simp)) 1 _ (by simp)) 2 _ (by simp)) 3 _ (by simp)) 4 _ (by simp)) _ _ (by simp; try omega)) _ _ (by simp; try omega)) _ _ (by simp; try omega)) _ _ (by simp; try omega)) _ _ (by simp; try omega))
              · exact ((((((((((bAf.set _ _).set _ _).set _ _).set _ _).set _ _).set _ _).set _ _).set _ _).set _ _).set _ _)
              · exact (Box.put (Box.put (Box.put (Box.put (Box.put (Box.far (Box.far (Box.far (Box.far (Box.far bB _ _ (by simp; try omega)) _ _ (by simp; try omega)) _ _ (by simp; try omega)) _ _ (by simp; try omega)) _ _ (by simp; try omega)) 0 _ (by simp)) 1 _ (by simp)) 2 _ (by simp)) 3 _ (by simp)) 4 _ (by simp))
              · exact ((((((((((bBf.set _ _).set _ _).set _ _).set _ _).set _ _).set _ _).set _ _).set _ _).set _ _).set _ _)
            case measure => simp [intOf]; omega
          · obtain rfl : q0 = q1 := by simpa using e2
            have hd : doneC ((p0, p0, p2, p3, p4), (q0, q0, q2, q3, q4)) = true := by simp [doneC]
            have HD := hide (rn_done HV2.out hlt hd)
            clear hd
            have lA0 := bA 0 _ rfl
            have lA1 := bA 1 _ rfl
            have lA2 := bA 2 _ rfl
            have lA3 := bA 3 _ rfl
            have lA4 := bA 4 _ rfl
            have lB0 := bB 0 _ rfl
            have lB1 := bB 1 _ rfl
            have lB2 := bB 2 _ rfl
            have lB3 := bB 3 _ rfl
            have lB4 := bB 4 _ rfl
            have fA0 := bAf 0
            have fA1 := bAf 1
            have fA2 := bAf 2
            have fA3 := bAf 3
            have fA4 := bAf 4
            have fB0 := bBf 0
            have fB1 := bBf 1
            have fB2 := bBf 2
            have fB3 := bBf 3
            have fB4 := bBf 4
            have lR0 := bR 0 _ rfl
            have lR1 := bR 1 _ rfl
            have nA : w.heap.size + 1 < wr.heap.size := by omega
            have nB : w.heap.size + 2 < wr.heap.size := by omega
            have nR : w.heap.size < wr.heap.size := by omega
            go_wp2_with fail
            go_ret2
            exact ⟨ret_pair HD.out, hbr⟩
      · obtain rfl : k = 201 := by omega
        go_wp2_with fail
        go_ret2
        exact ⟨ret_pair (rn_end HV2.out), hbr⟩
  · skip
    have HV := hide (rnV_bad HC.out hz)
    have hz2 : (cc == 0) = false := by simpa using hz
    have hz3 : (cc != 0) = true := by simpa using hz
    go_enter Tryz.func9, Tryz.ntmps9
    go_wp2_with fail
    obtain ⟨W0, hW0⟩ : ∃ W0 : World, W0 = ((((w.alloc (.cells #[.int .i64 mg, .int .i64 st] 26)).alloc (.cells #[.int .i64 a.1, .int .i64 a.2.1, .int .i64 a.2.2.1, .int .i64 a.2.2.2.1, .int .i64 a.2.2.2.2] 28)).alloc (.cells #[.int .i64 b.1, .int .i64 b.2.1, .int .i64 b.2.2.1, .int .i64 b.2.2.2.1, .int .i64 b.2.2.2.2] 28)).alloc (.cells #[.int .i64 a.1, .int .i64 a.2.1, .int .i64 a.2.2.1, .int .i64 a.2.2.2.1, .int .i64 a.2.2.2.2, .int .i64 b.1, .int .i64 b.2.1, .int .i64 b.2.2.1, .int .i64 b.2.2.2.1, .int .i64 b.2.2.2.2] 28)) := ⟨_, rfl⟩
    rw [← hW0]
    have bR : Box W0 (w.heap.size) [.int .i64 mg, .int .i64 st] := by rw [hW0]; exact (((box_at _ _ _ _ (by simp)).alloc (by simp) _).alloc (by simp; try omega) _).alloc (by simp; try omega) _
    have bA : Box W0 (w.heap.size + 1) [.int .i64 a.1, .int .i64 a.2.1, .int .i64 a.2.2.1, .int .i64 a.2.2.2.1, .int .i64 a.2.2.2.2] := by rw [hW0]; exact ((box_at _ _ _ _ (by simp)).alloc (by simp) _).alloc (by simp; try omega) _
    have bAf : Fz W0 (w.heap.size + 1) := by rw [hW0]; exact ((fz_at _ _ _ _ (by simp)).alloc (by simp) _).alloc (by simp; try omega) _
    have bB : Box W0 (w.heap.size + 2) [.int .i64 b.1, .int .i64 b.2.1, .int .i64 b.2.2.1, .int .i64 b.2.2.2.1, .int .i64 b.2.2.2.2] := by rw [hW0]; exact (box_at _ _ _ _ (by simp)).alloc (by simp) _
    have bBf : Fz W0 (w.heap.size + 2) := by rw [hW0]; exact (fz_at _ _ _ _ (by simp)).alloc (by simp) _
    have bL : Box W0 (w.heap.size + 3) [.int .i64 a.1, .int .i64 a.2.1, .int .i64 a.2.2.1, .int .i64 a.2.2.2.1, .int .i64 a.2.2.2.2, .int .i64 b.1, .int .i64 b.2.1, .int .i64 b.2.2.1, .int .i64 b.2.2.2.1, .int .i64 b.2.2.2.2] := by rw [hW0]; exact box_at _ _ _ _ (by simp)
    have hL : Rd W0 (w.heap.size + 3) (w.heap.size + 3 + 1) 5 (some ⟨w.heap.size + 3, 0, none⟩) 2 (rCtl [a, b]) := by rw [hW0]; exact rd_new _ _ _ 2 5 rfl _ rfl _ (by simp)
    have hB : Below w.heap.size w W0 := by rw [hW0]; exact (by repeat (first | exact Below.refl _ _ | refine Below.drew ?_ | refine Below.alloc ?_ (by first | (simp; done) | (simp; omega)) _))
    have hs0 : w.heap.size + 4 ≤ W0.heap.size := by rw [hW0]; first | (simp; done) | (simp; omega)
    clear hW0
    replace hr := hr.below hB (by omega)
    refine (controlCode_any A n c lo hi T hm mg st _ 2 2 (w.heap.size + 3) (w.heap.size + 3 + 1) [a, b] rfl (by omega) _ hr (by omega) hL (by omega)).mono ?_
    rintro e w1 ⟨rfl, hb⟩
    have hbb : Below W0.heap.size W0 w1 := Below.trans (by repeat (first | exact Below.refl _ _ | refine Below.drew ?_ | refine Below.alloc ?_ (by first | (simp; done) | (simp; omega)) _)) (Below.mono hb (by simp))
    clear hb
    have hs1 := hbb.size
    replace hr := hr.below hbb (by omega)
    replace hL := hL.below hbb (by omega)
    replace bR := bR.below hbb (by omega)
    replace bA := bA.below hbb (by omega)
    replace bAf := bAf.below hbb (by omega)
    replace bB := bB.below hbb (by omega)
    replace bBf := bBf.below hbb (by omega)
    replace bL := bL.below hbb (by omega)
    replace hB := hB.trans (hbb.mono (by omega))
    clear hbb
    rw [HC.out]
    clear hL
    clear bL
    go_wp2_with fail
    go_ret2
    exact ⟨ret_pair HV.out, hB⟩

end Go.Proofs.YtnbahmjimnhfbaaGreatDoor
