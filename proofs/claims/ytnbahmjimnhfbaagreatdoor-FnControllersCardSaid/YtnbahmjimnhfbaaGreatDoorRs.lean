/-
  RunRounds: the reference's and the program's. No condition but those that each theorem names.
-/
import Derived.Test.YtnbahmjimnhfbaaGreatDoorRr
import Derived.Test.YtnbahmjimnhfbaaGreatDoorStp
import Derived.Test.YtnbahmjimnhfbaaGreatDoorFamRound
namespace Go.Proofs.YtnbahmjimnhfbaaGreatDoor
open Go.RowKit
set_option linter.unusedVariables false
set_option linter.unusedSimpArgs false

/-- Cells from a place on in a block. -/
def BoxO (W : World) (b o : Nat) (vs : List Value) : Prop := ∀ i v, vs[i]? = some v → W.cell? ⟨b, o + i, none⟩ = some v
theorem BoxO.below {W W' : World} {b o B : Nat} {vs : List Value} (h : BoxO W b o vs) (hb : Below B W W') (hB : b < B) : BoxO W' b o vs := fun i v hv => (hb.cell (p := ⟨b, o + i, none⟩) hB).trans (h i v hv)
theorem BoxO.far {W : World} {b o : Nat} {vs : List Value} (h : BoxO W b o vs) (a : Addr) (v : Value) (hne : a.block ≠ b) : BoxO (W.setCell a v) b o vs := fun i u hu => (World.cell?_setCell_far W a ⟨b, o + i, none⟩ v hne).trans (h i u hu)
theorem far5O {W : World} {g k o : Nat} {a b c d e : Value} {z : List Value} (h : BoxO W k o z) (hk : g ≠ k) : BoxO (((((W.setCell ⟨g, 0, none⟩ a).setCell ⟨g, 1, none⟩ b).setCell ⟨g, 2, none⟩ c).setCell ⟨g, 3, none⟩ d).setCell ⟨g, 4, none⟩ e) k o z := ((((h.far _ _ hk).far _ _ hk).far _ _ hk).far _ _ hk).far _ _ hk
theorem BoxD {W : World} {b : Nat} {vs : List Value} (h : Box W b vs) : Box (World.drew W) b vs := h
theorem FzD {W : World} {b : Nat} (h : Fz W b) : Fz (World.drew W) b := h
/-- Does a round lead through a conflict. -/
def badC (T : List (List Bool)) (p q : Ctl × Ctl) : Bool := tg T q.1.1 q.2.1 || (tg T q.1.1 p.2.1 || tg T p.1.1 q.2.1)
/-- Both controllers behind k rounds, and the first round that led through a conflict. -/
def rsS (T : List (List Bool)) (mg st : Int) (L : List (Bool × Bool)) (p : Ctl × Ctl) : Nat → (Ctl × Ctl) × Int
  | 0 => (p, -1)
  | k + 1 => (roundC T mg st (L.getD k (false, false)).1 (L.getD k (false, false)).2 (rsS T mg st L p k).1, if (rsS T mg st L p k).2 < 0 ∧ badC T (rsS T mg st L p k).1 (roundC T mg st (L.getD k (false, false)).1 (L.getD k (false, false)).2 (rsS T mg st L p k).1) = true then (k : Int) else (rsS T mg st L p k).2)
def rsV (T : List (List Bool)) (mg st : Int) (a b : Ctl) (L : List (Bool × Bool)) : (Ctl × Ctl) × Int × Int :=
  if codeC T mg st [a, b] = 0 then if 200 < L.length then (((0, 0, 0, 0, 0), (0, 0, 0, 0, 0)), 0, 5) else ((rsS T mg st L (a, b) L.length).1, (rsS T mg st L (a, b) L.length).2, 0) else (((0, 0, 0, 0, 0), (0, 0, 0, 0, 0)), 0, codeC T mg st [a, b])
theorem rsV_bad {T : List (List Bool)} {mg st : Int} {a b : Ctl} {L : List (Bool × Bool)} {c : Int} (h : codeC T mg st [a, b] = c) (hc : c ≠ 0) : rsV T mg st a b L = (((0, 0, 0, 0, 0), (0, 0, 0, 0, 0)), 0, c) := by simp [rsV, h, hc]
theorem rsV_full {T : List (List Bool)} {mg st : Int} {a b : Ctl} {L : List (Bool × Bool)} (h : codeC T mg st [a, b] = 0) (hc : 200 < L.length) : rsV T mg st a b L = (((0, 0, 0, 0, 0), (0, 0, 0, 0, 0)), 0, 5) := by simp [rsV, h, hc]
theorem rsV_ok {T : List (List Bool)} {mg st : Int} {a b : Ctl} {L : List (Bool × Bool)} {m : Nat} {p : Ctl × Ctl} {bd : Int} (h : codeC T mg st [a, b] = 0) (hl : L.length = m) (hc : m ≤ 200) (hs : rsS T mg st L (a, b) m = (p, bd)) : rsV T mg st a b L = (p, bd, 0) := by
  subst hl
  rw [rsV, if_pos h, if_neg (by omega), hs]
theorem rsS_yes {T : List (List Bool)} {mg st : Int} {L : List (Bool × Bool)} {o p q : Ctl × Ctl} {k : Nat} {bd : Int} {x1 x2 : Bool} (h : rsS T mg st L o k = (p, bd)) (hk : k < L.length) (hx : L[k] = (x1, x2)) (hr : roundC T mg st x1 x2 p = q) (hb : bd < 0) (hc : badC T p q = true) : rsS T mg st L o (k + 1) = (q, (k : Int)) := by
  simp only [rsS, h, show L.getD k (false, false) = L[k] by simp [List.getD, hk], hx, hr]
  rw [if_pos ⟨hb, hc⟩]
theorem rsS_no {T : List (List Bool)} {mg st : Int} {L : List (Bool × Bool)} {o p q : Ctl × Ctl} {k : Nat} {bd : Int} {x1 x2 : Bool} (h : rsS T mg st L o k = (p, bd)) (hk : k < L.length) (hx : L[k] = (x1, x2)) (hr : roundC T mg st x1 x2 p = q) (hc : ¬(bd < 0 ∧ badC T p q = true)) : rsS T mg st L o (k + 1) = (q, bd) := by
  simp only [rsS, h, show L.getD k (false, false) = L[k] by simp [List.getD, hk], hx, hr]
  rw [if_neg hc]
theorem l18Round_as {r0 r1 r2 r3 r4 s0 s1 s2 s3 s4 : Int} (A : Option Addr) (n c lo hi : Nat) (T : List (List Bool)) (ok : Hid (okT T = true)) (mg st a0 a1 a2 a3 a4 b0 b1 b2 b3 b4 : Int) (x1 x2 : Bool) (hru : Hid (ruOk mg st = true)) (ha : Hid (ctlOkP (a0, a1, a2, a3, a4) = true)) (hb : Hid (ctlOkP (b0, b1, b2, b3, b4) = true)) (w : World) (hP : Hid (roundC T mg st x1 x2 ((a0, a1, a2, a3, a4), (b0, b1, b2, b3, b4)) = ((r0, r1, r2, r3, r4), (s0, s1, s2, s3, s4)))) (hr : RdSS w lo hi A n (rrBool T)) (hhi : hi ≤ w.heap.size) :
    Calls Tryz.prog 31 #[.slice A n c, .agg #[.int .i64 mg, .int .i64 st], .agg #[.int .i64 a0, .int .i64 a1, .int .i64 a2, .int .i64 a3, .int .i64 a4], .agg #[.int .i64 b0, .int .i64 b1, .int .i64 b2, .int .i64 b3, .int .i64 b4], .agg #[.bool x1, .bool x2]] w fun e w' => e = .returned (.tuple #[.agg #[.int .i64 r0, .int .i64 r1, .int .i64 r2, .int .i64 r3, .int .i64 r4], .agg #[.int .i64 s0, .int .i64 s1, .int .i64 s2, .int .i64 s3, .int .i64 s4]]) ∧ Below w.heap.size w w' := by
  have h := l18Round_any A n c lo hi T ok.out mg st (a0, a1, a2, a3, a4) (b0, b1, b2, b3, b4) x1 x2 hru.out ha.out hb.out w hr hhi
  rw [hP.out] at h
  exact h
theorem implRound_as {r0 r1 r2 r3 r4 s0 s1 s2 s3 s4 : Int} (A : Option Addr) (n c lo hi : Nat) (T : List (List Bool)) (ok : Hid (okT T = true)) (mg st a0 a1 a2 a3 a4 b0 b1 b2 b3 b4 : Int) (x1 x2 : Bool) (hru : Hid (ruOk mg st = true)) (ha : Hid (ctlOkP (a0, a1, a2, a3, a4) = true)) (hb : Hid (ctlOkP (b0, b1, b2, b3, b4) = true)) (w : World) (hP : Hid (roundC T mg st x1 x2 ((a0, a1, a2, a3, a4), (b0, b1, b2, b3, b4)) = ((r0, r1, r2, r3, r4), (s0, s1, s2, s3, s4)))) (hr : RdSS w lo hi A n (rrBool T)) (hhi : hi ≤ w.heap.size) :
    Calls Tryz.prog 28 #[.slice A n c, .agg #[.int .i64 mg, .int .i64 st], .agg #[.int .i64 a0, .int .i64 a1, .int .i64 a2, .int .i64 a3, .int .i64 a4], .agg #[.int .i64 b0, .int .i64 b1, .int .i64 b2, .int .i64 b3, .int .i64 b4], .agg #[.bool x1, .bool x2]] w fun e w' => e = .returned (.tuple #[.agg #[.int .i64 r0, .int .i64 r1, .int .i64 r2, .int .i64 r3, .int .i64 r4], .agg #[.int .i64 s0, .int .i64 s1, .int .i64 s2, .int .i64 s3, .int .i64 s4]]) ∧ Below w.heap.size w w' := by
  have h := implRound_any A n c lo hi T ok.out mg st (a0, a1, a2, a3, a4) (b0, b1, b2, b3, b4) x1 x2 hru.out ha.out hb.out w hr hhi
  rw [hP.out] at h
  exact h

set_option maxRecDepth 100000 in
set_option maxHeartbeats 4000000 in
theorem l18Bad_any (A : Option Addr) (n cp lo hi : Nat) (T : List (List Bool)) (ok : okT T = true) (a0 a1 a2 a3 a4 b0 b1 b2 b3 b4 c0 c1 c2 c3 c4 d0 d1 d2 d3 d4 : Int) (ha : 0 ≤ a0 ∧ a0 ≤ 23) (hb : 0 ≤ b0 ∧ b0 ≤ 23) (hc : 0 ≤ c0 ∧ c0 ≤ 23) (hd : 0 ≤ d0 ∧ d0 ≤ 23) (w : World) (h : RdSS w lo hi A n (rrBool T)) (hhi : hi ≤ w.heap.size) :
    Calls Tryz.prog 32 #[.slice A n cp, .agg #[.int .i64 a0, .int .i64 a1, .int .i64 a2, .int .i64 a3, .int .i64 a4], .agg #[.int .i64 b0, .int .i64 b1, .int .i64 b2, .int .i64 b3, .int .i64 b4], .agg #[.int .i64 c0, .int .i64 c1, .int .i64 c2, .int .i64 c3, .int .i64 c4], .agg #[.int .i64 d0, .int .i64 d1, .int .i64 d2, .int .i64 d3, .int .i64 d4]] w fun e w' => e = .returned (.bool (badC T ((a0, a1, a2, a3, a4), (b0, b1, b2, b3, b4)) ((c0, c1, c2, c3, c4), (d0, d1, d2, d3, d4)))) ∧ Below w.heap.size w w' := by
  obtain ⟨ka, rfl⟩ : ∃ k : Nat, a0 = k := ⟨a0.toNat, by omega⟩
  obtain ⟨kb, rfl⟩ : ∃ k : Nat, b0 = k := ⟨b0.toNat, by omega⟩
  obtain ⟨kx, rfl⟩ : ∃ k : Nat, c0 = k := ⟨c0.toNat, by omega⟩
  obtain ⟨ky, rfl⟩ : ∃ k : Nat, d0 = k := ⟨d0.toNat, by omega⟩
  obtain rfl := tab_n h ok
  show Calls _ _ _ _ fun e w' => e = .returned (.bool (tg T kx ky || (tg T kx kb || tg T ka ky))) ∧ Below w.heap.size w w'
  obtain ⟨b0, o0, bx, ox, cx, hA, l1, l2, hcx, hrx⟩ := tab_row h ok kx (by omega)
  obtain ⟨b0', o0', ba, oa, ca, hA', _, l3, hca, hra⟩ := tab_row h ok ka (by omega)
  subst hA
  obtain ⟨rfl, rfl⟩ : b0 = b0' ∧ o0 = o0' := by simpa using hA'
  have e1 := hrx ky (by omega)
  have e2 := hrx kb (by omega)
  have e3 := hra ky (by omega)
  clear hrx hra hA' h ok
  generalize tg T kx ky = v1 at *
  generalize tg T kx kb = v2 at *
  generalize tg T ka ky = v3 at *
  cases v1
  case true =>
    go_enter Tryz.func32, Tryz.ntmps32
    go_wp2_with fail
    obtain ⟨W0, hW0⟩ : ∃ W0 : World, W0 = ((((w.alloc (.cells #[.int .i64 (ka : Int), .int .i64 a1, .int .i64 a2, .int .i64 a3, .int .i64 a4] 28)).alloc (.cells #[.int .i64 (kb : Int), .int .i64 b1, .int .i64 b2, .int .i64 b3, .int .i64 b4] 28)).alloc (.cells #[.int .i64 (kx : Int), .int .i64 c1, .int .i64 c2, .int .i64 c3, .int .i64 c4] 28)).alloc (.cells #[.int .i64 (ky : Int), .int .i64 d1, .int .i64 d2, .int .i64 d3, .int .i64 d4] 28)) := ⟨_, rfl⟩
    rw [← hW0]
    have bA : Box W0 (w.heap.size) [.int .i64 (ka : Int), .int .i64 a1, .int .i64 a2, .int .i64 a3, .int .i64 a4] := by rw [hW0]; exact (((box_at _ _ _ _ (by simp)).alloc (by simp) _).alloc (by simp; try omega) _).alloc (by simp; try omega) _
    have bB : Box W0 (w.heap.size + 1) [.int .i64 (kb : Int), .int .i64 b1, .int .i64 b2, .int .i64 b3, .int .i64 b4] := by rw [hW0]; exact ((box_at _ _ _ _ (by simp)).alloc (by simp) _).alloc (by simp; try omega) _
    have bC : Box W0 (w.heap.size + 2) [.int .i64 (kx : Int), .int .i64 c1, .int .i64 c2, .int .i64 c3, .int .i64 c4] := by rw [hW0]; exact (box_at _ _ _ _ (by simp)).alloc (by simp) _
    have bD : Box W0 (w.heap.size + 3) [.int .i64 (ky : Int), .int .i64 d1, .int .i64 d2, .int .i64 d3, .int .i64 d4] := by rw [hW0]; exact box_at _ _ _ _ (by simp)
    have hB : Below w.heap.size w W0 := by rw [hW0]; exact (by repeat (first | exact Below.refl _ _ | refine Below.drew ?_ | refine Below.alloc ?_ (by first | (simp; done) | (simp; omega)) _))
    have hs0 : w.heap.size + 4 ≤ W0.heap.size := by rw [hW0]; first | (simp; done) | (simp; omega)
    clear hW0
    replace hcx := (hB.cell (by first | exact (show _ < _ by first | omega | (simp; omega)) | (simp; omega) | omega)).trans hcx
    replace hca := (hB.cell (by first | exact (show _ < _ by first | omega | (simp; omega)) | (simp; omega) | omega)).trans hca
    replace e1 := (hB.cell (by first | exact (show _ < _ by first | omega | (simp; omega)) | (simp; omega) | omega)).trans e1
    replace e2 := (hB.cell (by first | exact (show _ < _ by first | omega | (simp; omega)) | (simp; omega) | omega)).trans e2
    replace e3 := (hB.cell (by first | exact (show _ < _ by first | omega | (simp; omega)) | (simp; omega) | omega)).trans e3
    have nbA : w.heap.size < W0.heap.size := by omega
    have lbA_0 := bA 0 _ rfl
    have lbA_1 := bA 1 _ rfl
    have lbA_2 := bA 2 _ rfl
    have lbA_3 := bA 3 _ rfl
    have lbA_4 := bA 4 _ rfl
    have nbB : w.heap.size + 1 < W0.heap.size := by omega
    have lbB_0 := bB 0 _ rfl
    have lbB_1 := bB 1 _ rfl
    have lbB_2 := bB 2 _ rfl
    have lbB_3 := bB 3 _ rfl
    have lbB_4 := bB 4 _ rfl
    have nbC : w.heap.size + 2 < W0.heap.size := by omega
    have lbC_0 := bC 0 _ rfl
    have lbC_1 := bC 1 _ rfl
    have lbC_2 := bC 2 _ rfl
    have lbC_3 := bC 3 _ rfl
    have lbC_4 := bC 4 _ rfl
    have nbD : w.heap.size + 3 < W0.heap.size := by omega
    have lbD_0 := bD 0 _ rfl
    have lbD_1 := bD 1 _ rfl
    have lbD_2 := bD 2 _ rfl
    have lbD_3 := bD 3 _ rfl
    have lbD_4 := bD 4 _ rfl
    go_wp2_with fail
    go_quiet (fail)
    go_wp2_with fail
    go_ret
    refine ⟨ret_bool (by simp), ?_⟩
    first | exact hB | exact hB.trans (Joins.below_draws _ _ _)
  cases v2
  case true =>
    go_enter Tryz.func32, Tryz.ntmps32
    go_wp2_with fail
    obtain ⟨W0, hW0⟩ : ∃ W0 : World, W0 = ((((w.alloc (.cells #[.int .i64 (ka : Int), .int .i64 a1, .int .i64 a2, .int .i64 a3, .int .i64 a4] 28)).alloc (.cells #[.int .i64 (kb : Int), .int .i64 b1, .int .i64 b2, .int .i64 b3, .int .i64 b4] 28)).alloc (.cells #[.int .i64 (kx : Int), .int .i64 c1, .int .i64 c2, .int .i64 c3, .int .i64 c4] 28)).alloc (.cells #[.int .i64 (ky : Int), .int .i64 d1, .int .i64 d2, .int .i64 d3, .int .i64 d4] 28)) := ⟨_, rfl⟩
    rw [← hW0]
    have bA : Box W0 (w.heap.size) [.int .i64 (ka : Int), .int .i64 a1, .int .i64 a2, .int .i64 a3, .int .i64 a4] := by rw [hW0]; exact (((box_at _ _ _ _ (by simp)).alloc (by simp) _).alloc (by simp; try omega) _).alloc (by simp; try omega) _
    have bB : Box W0 (w.heap.size + 1) [.int .i64 (kb : Int), .int .i64 b1, .int .i64 b2, .int .i64 b3, .int .i64 b4] := by rw [hW0]; exact ((box_at _ _ _ _ (by simp)).alloc (by simp) _).alloc (by simp; try omega) _
    have bC : Box W0 (w.heap.size + 2) [.int .i64 (kx : Int), .int .i64 c1, .int .i64 c2, .int .i64 c3, .int .i64 c4] := by rw [hW0]; exact (box_at _ _ _ _ (by simp)).alloc (by simp) _
    have bD : Box W0 (w.heap.size + 3) [.int .i64 (ky : Int), .int .i64 d1, .int .i64 d2, .int .i64 d3, .int .i64 d4] := by rw [hW0]; exact box_at _ _ _ _ (by simp)
    have hB : Below w.heap.size w W0 := by rw [hW0]; exact (by repeat (first | exact Below.refl _ _ | refine Below.drew ?_ | refine Below.alloc ?_ (by first | (simp; done) | (simp; omega)) _))
    have hs0 : w.heap.size + 4 ≤ W0.heap.size := by rw [hW0]; first | (simp; done) | (simp; omega)
    clear hW0
    replace hcx := (hB.cell (by first | exact (show _ < _ by first | omega | (simp; omega)) | (simp; omega) | omega)).trans hcx
    replace hca := (hB.cell (by first | exact (show _ < _ by first | omega | (simp; omega)) | (simp; omega) | omega)).trans hca
    replace e1 := (hB.cell (by first | exact (show _ < _ by first | omega | (simp; omega)) | (simp; omega) | omega)).trans e1
    replace e2 := (hB.cell (by first | exact (show _ < _ by first | omega | (simp; omega)) | (simp; omega) | omega)).trans e2
    replace e3 := (hB.cell (by first | exact (show _ < _ by first | omega | (simp; omega)) | (simp; omega) | omega)).trans e3
    have nbA : w.heap.size < W0.heap.size := by omega
    have lbA_0 := bA 0 _ rfl
    have lbA_1 := bA 1 _ rfl
    have lbA_2 := bA 2 _ rfl
    have lbA_3 := bA 3 _ rfl
    have lbA_4 := bA 4 _ rfl
    have nbB : w.heap.size + 1 < W0.heap.size := by omega
    have lbB_0 := bB 0 _ rfl
    have lbB_1 := bB 1 _ rfl
    have lbB_2 := bB 2 _ rfl
    have lbB_3 := bB 3 _ rfl
    have lbB_4 := bB 4 _ rfl
    have nbC : w.heap.size + 2 < W0.heap.size := by omega
    have lbC_0 := bC 0 _ rfl
    have lbC_1 := bC 1 _ rfl
    have lbC_2 := bC 2 _ rfl
    have lbC_3 := bC 3 _ rfl
    have lbC_4 := bC 4 _ rfl
    have nbD : w.heap.size + 3 < W0.heap.size := by omega
    have lbD_0 := bD 0 _ rfl
    have lbD_1 := bD 1 _ rfl
    have lbD_2 := bD 2 _ rfl
    have lbD_3 := bD 3 _ rfl
    have lbD_4 := bD 4 _ rfl
    go_wp2_with fail
    go_quiet (fail)
    go_wp2_with fail
    go_ret
    refine ⟨ret_bool (by simp), ?_⟩
    first | exact hB | exact hB.trans (Joins.below_draws _ _ _)
  all_goals
    go_enter Tryz.func32, Tryz.ntmps32
    go_wp2_with fail
    obtain ⟨W0, hW0⟩ : ∃ W0 : World, W0 = ((((w.alloc (.cells #[.int .i64 (ka : Int), .int .i64 a1, .int .i64 a2, .int .i64 a3, .int .i64 a4] 28)).alloc (.cells #[.int .i64 (kb : Int), .int .i64 b1, .int .i64 b2, .int .i64 b3, .int .i64 b4] 28)).alloc (.cells #[.int .i64 (kx : Int), .int .i64 c1, .int .i64 c2, .int .i64 c3, .int .i64 c4] 28)).alloc (.cells #[.int .i64 (ky : Int), .int .i64 d1, .int .i64 d2, .int .i64 d3, .int .i64 d4] 28)) := ⟨_, rfl⟩
    rw [← hW0]
    have bA : Box W0 (w.heap.size) [.int .i64 (ka : Int), .int .i64 a1, .int .i64 a2, .int .i64 a3, .int .i64 a4] := by rw [hW0]; exact (((box_at _ _ _ _ (by simp)).alloc (by simp) _).alloc (by simp; try omega) _).alloc (by simp; try omega) _
    have bB : Box W0 (w.heap.size + 1) [.int .i64 (kb : Int), .int .i64 b1, .int .i64 b2, .int .i64 b3, .int .i64 b4] := by rw [hW0]; exact ((box_at _ _ _ _ (by simp)).alloc (by simp) _).alloc (by simp; try omega) _
    have bC : Box W0 (w.heap.size + 2) [.int .i64 (kx : Int), .int .i64 c1, .int .i64 c2, .int .i64 c3, .int .i64 c4] := by rw [hW0]; exact (box_at _ _ _ _ (by simp)).alloc (by simp) _
    have bD : Box W0 (w.heap.size + 3) [.int .i64 (ky : Int), .int .i64 d1, .int .i64 d2, .int .i64 d3, .int .i64 d4] := by rw [hW0]; exact box_at _ _ _ _ (by simp)
    have hB : Below w.heap.size w W0 := by rw [hW0]; exact (by repeat (first | exact Below.refl _ _ | refine Below.drew ?_ | refine Below.alloc ?_ (by first | (simp; done) | (simp; omega)) _))
    have hs0 : w.heap.size + 4 ≤ W0.heap.size := by rw [hW0]; first | (simp; done) | (simp; omega)
    clear hW0
    replace hcx := (hB.cell (by first | exact (show _ < _ by first | omega | (simp; omega)) | (simp; omega) | omega)).trans hcx
    replace hca := (hB.cell (by first | exact (show _ < _ by first | omega | (simp; omega)) | (simp; omega) | omega)).trans hca
    replace e1 := (hB.cell (by first | exact (show _ < _ by first | omega | (simp; omega)) | (simp; omega) | omega)).trans e1
    replace e2 := (hB.cell (by first | exact (show _ < _ by first | omega | (simp; omega)) | (simp; omega) | omega)).trans e2
    replace e3 := (hB.cell (by first | exact (show _ < _ by first | omega | (simp; omega)) | (simp; omega) | omega)).trans e3
    have nbA : w.heap.size < W0.heap.size := by omega
    have lbA_0 := bA 0 _ rfl
    have lbA_1 := bA 1 _ rfl
    have lbA_2 := bA 2 _ rfl
    have lbA_3 := bA 3 _ rfl
    have lbA_4 := bA 4 _ rfl
    have nbB : w.heap.size + 1 < W0.heap.size := by omega
    have lbB_0 := bB 0 _ rfl
    have lbB_1 := bB 1 _ rfl
    have lbB_2 := bB 2 _ rfl
    have lbB_3 := bB 3 _ rfl
    have lbB_4 := bB 4 _ rfl
    have nbC : w.heap.size + 2 < W0.heap.size := by omega
    have lbC_0 := bC 0 _ rfl
    have lbC_1 := bC 1 _ rfl
    have lbC_2 := bC 2 _ rfl
    have lbC_3 := bC 3 _ rfl
    have lbC_4 := bC 4 _ rfl
    have nbD : w.heap.size + 3 < W0.heap.size := by omega
    have lbD_0 := bD 0 _ rfl
    have lbD_1 := bD 1 _ rfl
    have lbD_2 := bD 2 _ rfl
    have lbD_3 := bD 3 _ rfl
    have lbD_4 := bD 4 _ rfl
    go_wp2_with fail
    go_quiet (fail)
    go_wp2_with fail
    go_ret
    refine ⟨ret_bool (by simp), ?_⟩
    first | exact hB | exact hB.trans (Joins.below_draws _ _ _)

set_option maxRecDepth 100000 in
set_option maxHeartbeats 8000000 in
theorem specRunRounds_any (A : Option Addr) (n c lo hi : Nat) (T : List (List Bool)) (hm : n ≤ maxLen) (mg st : Int) (a b : Ctl) (B' : Option Addr) (m cm lo' hi' : Nat) (L : List (Bool × Bool)) (hL : L.length = m) (hmm : m ≤ 1048576) (w : World) (hr : RdSS w lo hi A n (rrBool T)) (hhi : hi ≤ w.heap.size) (hx : Rd w lo' hi' 2 B' m (rRound L)) (hhx : hi' ≤ w.heap.size) :
    Calls Tryz.prog 7 #[.slice A n c, .agg #[.int .i64 mg, .int .i64 st], .agg #[.int .i64 a.1, .int .i64 a.2.1, .int .i64 a.2.2.1, .int .i64 a.2.2.2.1, .int .i64 a.2.2.2.2], .agg #[.int .i64 b.1, .int .i64 b.2.1, .int .i64 b.2.2.1, .int .i64 b.2.2.2.1, .int .i64 b.2.2.2.2], .slice B' m cm] w fun e w' => e = .returned (.tuple #[.agg #[.int .i64 (rsV T mg st a b L).1.1.1, .int .i64 (rsV T mg st a b L).1.1.2.1, .int .i64 (rsV T mg st a b L).1.1.2.2.1, .int .i64 (rsV T mg st a b L).1.1.2.2.2.1, .int .i64 (rsV T mg st a b L).1.1.2.2.2.2], .agg #[.int .i64 (rsV T mg st a b L).1.2.1, .int .i64 (rsV T mg st a b L).1.2.2.1, .int .i64 (rsV T mg st a b L).1.2.2.2.1, .int .i64 (rsV T mg st a b L).1.2.2.2.2.1, .int .i64 (rsV T mg st a b L).1.2.2.2.2.2], .int .i64 (rsV T mg st a b L).2.1, .int .i64 (rsV T mg st a b L).2.2]) ∧ Below w.heap.size w w' := by
  obtain ⟨cc, hcc⟩ : ∃ cc, codeC T mg st [a, b] = cc := ⟨_, rfl⟩
  have HC := hide hcc
  have HL := hide hL
  have HR0 := hide hr
  have HX0 := hide hx
  clear hcc hL hx
  by_cases hz : cc = 0
  · by_cases hfull : 200 < m
    · skip
      subst hz
      have HV := hide (rsV_full (L := L) HC.out (by rw [HL.out]; exact hfull))
      go_enter Tryz.func7, Tryz.ntmps7
      go_wp2_with fail
      obtain ⟨W0, hW0⟩ : ∃ W0 : World, W0 = ((((((w.alloc (.cells #[.int .i64 mg, .int .i64 st] 26)).alloc (.cells #[.int .i64 a.1, .int .i64 a.2.1, .int .i64 a.2.2.1, .int .i64 a.2.2.2.1, .int .i64 a.2.2.2.2] 28)).alloc (.cells #[.int .i64 b.1, .int .i64 b.2.1, .int .i64 b.2.2.1, .int .i64 b.2.2.2.1, .int .i64 b.2.2.2.2] 28)).alloc (.cells #[.int .i64 0, .int .i64 0, .int .i64 0, .int .i64 0, .int .i64 0] 28)).alloc (.cells #[.int .i64 0, .int .i64 0, .int .i64 0, .int .i64 0, .int .i64 0] 28)).alloc (.cells #[.int .i64 a.1, .int .i64 a.2.1, .int .i64 a.2.2.1, .int .i64 a.2.2.2.1, .int .i64 a.2.2.2.2, .int .i64 b.1, .int .i64 b.2.1, .int .i64 b.2.2.1, .int .i64 b.2.2.2.1, .int .i64 b.2.2.2.2] 28)) := ⟨_, rfl⟩
      rw [← hW0]
      have bR : Box W0 (w.heap.size) [.int .i64 mg, .int .i64 st] := by rw [hW0]; exact (((((box_at _ _ _ _ (by simp)).alloc (by simp) _).alloc (by simp; try omega) _).alloc (by simp; try omega) _).alloc (by simp; try omega) _).alloc (by simp; try omega) _
      have bA : Box W0 (w.heap.size + 1) [.int .i64 a.1, .int .i64 a.2.1, .int .i64 a.2.2.1, .int .i64 a.2.2.2.1, .int .i64 a.2.2.2.2] := by rw [hW0]; exact ((((box_at _ _ _ _ (by simp)).alloc (by simp) _).alloc (by simp; try omega) _).alloc (by simp; try omega) _).alloc (by simp; try omega) _
      have bAf : Fz W0 (w.heap.size + 1) := by rw [hW0]; exact ((((fz_at _ _ _ _ (by simp)).alloc (by simp) _).alloc (by simp; try omega) _).alloc (by simp; try omega) _).alloc (by simp; try omega) _
      have bB : Box W0 (w.heap.size + 2) [.int .i64 b.1, .int .i64 b.2.1, .int .i64 b.2.2.1, .int .i64 b.2.2.2.1, .int .i64 b.2.2.2.2] := by rw [hW0]; exact (((box_at _ _ _ _ (by simp)).alloc (by simp) _).alloc (by simp; try omega) _).alloc (by simp; try omega) _
      have bBf : Fz W0 (w.heap.size + 2) := by rw [hW0]; exact (((fz_at _ _ _ _ (by simp)).alloc (by simp) _).alloc (by simp; try omega) _).alloc (by simp; try omega) _
      have bP : Box W0 (w.heap.size + 3) [.int .i64 0, .int .i64 0, .int .i64 0, .int .i64 0, .int .i64 0] := by rw [hW0]; exact ((box_at _ _ _ _ (by simp)).alloc (by simp) _).alloc (by simp; try omega) _
      have bPf : Fz W0 (w.heap.size + 3) := by rw [hW0]; exact ((fz_at _ _ _ _ (by simp)).alloc (by simp) _).alloc (by simp; try omega) _
      have bQ : Box W0 (w.heap.size + 4) [.int .i64 0, .int .i64 0, .int .i64 0, .int .i64 0, .int .i64 0] := by rw [hW0]; exact (box_at _ _ _ _ (by simp)).alloc (by simp) _
      have bQf : Fz W0 (w.heap.size + 4) := by rw [hW0]; exact (fz_at _ _ _ _ (by simp)).alloc (by simp) _
      have bL : Box W0 (w.heap.size + 5) [.int .i64 a.1, .int .i64 a.2.1, .int .i64 a.2.2.1, .int .i64 a.2.2.2.1, .int .i64 a.2.2.2.2, .int .i64 b.1, .int .i64 b.2.1, .int .i64 b.2.2.1, .int .i64 b.2.2.2.1, .int .i64 b.2.2.2.2] := by rw [hW0]; exact box_at _ _ _ _ (by simp)
      have hL : Rd W0 (w.heap.size + 5) (w.heap.size + 5 + 1) 5 (some ⟨w.heap.size + 5, 0, none⟩) 2 (rCtl [a, b]) := by rw [hW0]; exact rd_new _ _ _ 2 5 rfl _ rfl _ (by simp)
      have hB : Below w.heap.size w W0 := by rw [hW0]; exact (by repeat (first | exact Below.refl _ _ | refine Below.drew ?_ | refine Below.alloc ?_ (by first | (simp; done) | (simp; omega)) _))
      have hs0 : w.heap.size + 6 ≤ W0.heap.size := by rw [hW0]; first | (simp; done) | (simp; omega)
      clear hW0
      replace hr := hr.below hB (by omega)
      refine (l18Code_any A n c lo hi T hm mg st _ 2 2 (w.heap.size + 5) (w.heap.size + 5 + 1) [a, b] rfl (by omega) _ hr (by omega) hL (by omega)).mono ?_
      rintro e w1 ⟨rfl, hb⟩
      have hbb : Below W0.heap.size W0 w1 := Below.trans (by repeat (first | exact Below.refl _ _ | refine Below.drew ?_ | refine Below.alloc ?_ (by first | (simp; done) | (simp; omega)) _)) (Below.mono hb (by simp))
      clear hb
      have hs1 := hbb.size
      replace hr := hr.below hbb (by omega)
      replace hL := hL.below hbb (by omega)
      replace bR := bR.below hbb (by omega)
      replace bA := bA.below hbb (by omega)
      replace bAf := bAf.below hbb (by omega)
      replace bB := bB.below hbb (by omega)
      replace bBf := bBf.below hbb (by omega)
      replace bP := bP.below hbb (by omega)
      replace bPf := bPf.below hbb (by omega)
      replace bQ := bQ.below hbb (by omega)
      replace bQf := bQf.below hbb (by omega)
      replace bL := bL.below hbb (by omega)
      replace hB := hB.trans (hbb.mono (by omega))
      clear hbb
      rw [HC.out]
      clear hL
      clear bL
      have nbP : w.heap.size + 3 < w1.heap.size := by omega
      have lbP_0 := bP 0 _ rfl
      have lbP_1 := bP 1 _ rfl
      have lbP_2 := bP 2 _ rfl
      have lbP_3 := bP 3 _ rfl
      have lbP_4 := bP 4 _ rfl
      have lfbP_0 := bPf 0
      have lfbP_1 := bPf 1
      have lfbP_2 := bPf 2
      have lfbP_3 := bPf 3
      have lfbP_4 := bPf 4
      have nbQ : w.heap.size + 4 < w1.heap.size := by omega
      have lbQ_0 := bQ 0 _ rfl
      have lbQ_1 := bQ 1 _ rfl
      have lbQ_2 := bQ 2 _ rfl
      have lbQ_3 := bQ 3 _ rfl
      have lbQ_4 := bQ 4 _ rfl
      have lfbQ_0 := bQf 0
      have lfbQ_1 := bQf 1
      have lfbQ_2 := bQf 2
      have lfbQ_3 := bQf 3
      have lfbQ_4 := bQf 4
      go_wp2_with fail
      refine bodyPost_ret (v := .tuple #[.agg #[.int .i64 0, .int .i64 0, .int .i64 0, .int .i64 0, .int .i64 0], .agg #[.int .i64 0, .int .i64 0, .int .i64 0, .int .i64 0, .int .i64 0], .int .i64 0, .int .i64 5]) (by simp [results, Tryz.results7, go_sem, lbP_0, lbP_1, lbP_2, lbP_3, lbP_4, lbQ_0, lbQ_1, lbQ_2, lbQ_3, lbQ_4]) rfl ⟨by rw [HV.out], ?_⟩
      repeat (first | with_reducible refine Below.drew ?_ | with_reducible refine Below.setCell ?_ (by simp; try omega) _)
      exact hB
    · skip
      subst hz
      obtain ⟨e0, e1, e2⟩ := codeC_zero HC.out
      have E0 := hide e0
      have E1 := hide e1
      have EA := hide (e2 a (by simp))
      have EB := hide (e2 b (by simp))
      clear e0 e1 e2
      go_enter Tryz.func7, Tryz.ntmps7
      go_wp2_with fail
      obtain ⟨W0, hW0⟩ : ∃ W0 : World, W0 = ((((((w.alloc (.cells #[.int .i64 mg, .int .i64 st] 26)).alloc (.cells #[.int .i64 a.1, .int .i64 a.2.1, .int .i64 a.2.2.1, .int .i64 a.2.2.2.1, .int .i64 a.2.2.2.2] 28)).alloc (.cells #[.int .i64 b.1, .int .i64 b.2.1, .int .i64 b.2.2.1, .int .i64 b.2.2.2.1, .int .i64 b.2.2.2.2] 28)).alloc (.cells #[.int .i64 0, .int .i64 0, .int .i64 0, .int .i64 0, .int .i64 0] 28)).alloc (.cells #[.int .i64 0, .int .i64 0, .int .i64 0, .int .i64 0, .int .i64 0] 28)).alloc (.cells #[.int .i64 a.1, .int .i64 a.2.1, .int .i64 a.2.2.1, .int .i64 a.2.2.2.1, .int .i64 a.2.2.2.2, .int .i64 b.1, .int .i64 b.2.1, .int .i64 b.2.2.1, .int .i64 b.2.2.2.1, .int .i64 b.2.2.2.2] 28)) := ⟨_, rfl⟩
      rw [← hW0]
      have bR : Box W0 (w.heap.size) [.int .i64 mg, .int .i64 st] := by rw [hW0]; exact (((((box_at _ _ _ _ (by simp)).alloc (by simp) _).alloc (by simp; try omega) _).alloc (by simp; try omega) _).alloc (by simp; try omega) _).alloc (by simp; try omega) _
      have bA : Box W0 (w.heap.size + 1) [.int .i64 a.1, .int .i64 a.2.1, .int .i64 a.2.2.1, .int .i64 a.2.2.2.1, .int .i64 a.2.2.2.2] := by rw [hW0]; exact ((((box_at _ _ _ _ (by simp)).alloc (by simp) _).alloc (by simp; try omega) _).alloc (by simp; try omega) _).alloc (by simp; try omega) _
      have bAf : Fz W0 (w.heap.size + 1) := by rw [hW0]; exact ((((fz_at _ _ _ _ (by simp)).alloc (by simp) _).alloc (by simp; try omega) _).alloc (by simp; try omega) _).alloc (by simp; try omega) _
      have bB : Box W0 (w.heap.size + 2) [.int .i64 b.1, .int .i64 b.2.1, .int .i64 b.2.2.1, .int .i64 b.2.2.2.1, .int .i64 b.2.2.2.2] := by rw [hW0]; exact (((box_at _ _ _ _ (by simp)).alloc (by simp) _).alloc (by simp; try omega) _).alloc (by simp; try omega) _
      have bBf : Fz W0 (w.heap.size + 2) := by rw [hW0]; exact (((fz_at _ _ _ _ (by simp)).alloc (by simp) _).alloc (by simp; try omega) _).alloc (by simp; try omega) _
      have bP : Box W0 (w.heap.size + 3) [.int .i64 0, .int .i64 0, .int .i64 0, .int .i64 0, .int .i64 0] := by rw [hW0]; exact ((box_at _ _ _ _ (by simp)).alloc (by simp) _).alloc (by simp; try omega) _
      have bPf : Fz W0 (w.heap.size + 3) := by rw [hW0]; exact ((fz_at _ _ _ _ (by simp)).alloc (by simp) _).alloc (by simp; try omega) _
      have bQ : Box W0 (w.heap.size + 4) [.int .i64 0, .int .i64 0, .int .i64 0, .int .i64 0, .int .i64 0] := by rw [hW0]; exact (box_at _ _ _ _ (by simp)).alloc (by simp) _
      have bQf : Fz W0 (w.heap.size + 4) := by rw [hW0]; exact (fz_at _ _ _ _ (by simp)).alloc (by simp) _
      have bL : Box W0 (w.heap.size + 5) [.int .i64 a.1, .int .i64 a.2.1, .int .i64 a.2.2.1, .int .i64 a.2.2.2.1, .int .i64 a.2.2.2.2, .int .i64 b.1, .int .i64 b.2.1, .int .i64 b.2.2.1, .int .i64 b.2.2.2.1, .int .i64 b.2.2.2.2] := by rw [hW0]; exact box_at _ _ _ _ (by simp)
      have hL : Rd W0 (w.heap.size + 5) (w.heap.size + 5 + 1) 5 (some ⟨w.heap.size + 5, 0, none⟩) 2 (rCtl [a, b]) := by rw [hW0]; exact rd_new _ _ _ 2 5 rfl _ rfl _ (by simp)
      have hB : Below w.heap.size w W0 := by rw [hW0]; exact (by repeat (first | exact Below.refl _ _ | refine Below.drew ?_ | refine Below.alloc ?_ (by first | (simp; done) | (simp; omega)) _))
      have hs0 : w.heap.size + 6 ≤ W0.heap.size := by rw [hW0]; first | (simp; done) | (simp; omega)
      clear hW0
      replace hr := hr.below hB (by omega)
      refine (l18Code_any A n c lo hi T hm mg st _ 2 2 (w.heap.size + 5) (w.heap.size + 5 + 1) [a, b] rfl (by omega) _ hr (by omega) hL (by omega)).mono ?_
      rintro e w1 ⟨rfl, hb⟩
      have hbb : Below W0.heap.size W0 w1 := Below.trans (by repeat (first | exact Below.refl _ _ | refine Below.drew ?_ | refine Below.alloc ?_ (by first | (simp; done) | (simp; omega)) _)) (Below.mono hb (by simp))
      clear hb
      have hs1 := hbb.size
      replace hr := hr.below hbb (by omega)
      replace hL := hL.below hbb (by omega)
      replace bR := bR.below hbb (by omega)
      replace bA := bA.below hbb (by omega)
      replace bAf := bAf.below hbb (by omega)
      replace bB := bB.below hbb (by omega)
      replace bBf := bBf.below hbb (by omega)
      replace bP := bP.below hbb (by omega)
      replace bPf := bPf.below hbb (by omega)
      replace bQ := bQ.below hbb (by omega)
      replace bQf := bQf.below hbb (by omega)
      replace bL := bL.below hbb (by omega)
      replace hB := hB.trans (hbb.mono (by omega))
      clear hbb
      rw [HC.out]
      clear hL
      clear bL
      clear hr
      go_wp2_with fail
      go_loopw [15, 16] (fun bs i wr => ∃ (k : Nat) (q : Ctl × Ctl) (bd : Int), k ≤ m ∧ i = .int .i64 k ∧ bs = .int .i64 bd ∧ Hid (ctlOkP q.1 = true ∧ ctlOkP q.2 = true ∧ rsS T mg st L (a, b) k = (q, bd)) ∧ Below w.heap.size w wr ∧ w.heap.size + 6 ≤ wr.heap.size ∧ Box wr w.heap.size [.int .i64 mg, .int .i64 st] ∧ Box wr (w.heap.size + 1) [.int .i64 q.1.1, .int .i64 q.1.2.1, .int .i64 q.1.2.2.1, .int .i64 q.1.2.2.2.1, .int .i64 q.1.2.2.2.2] ∧ Fz wr (w.heap.size + 1) ∧ Box wr (w.heap.size + 2) [.int .i64 q.2.1, .int .i64 q.2.2.1, .int .i64 q.2.2.2.1, .int .i64 q.2.2.2.2.1, .int .i64 q.2.2.2.2.2] ∧ Fz wr (w.heap.size + 2) ∧ Box wr (w.heap.size + 3) [.int .i64 0, .int .i64 0, .int .i64 0, .int .i64 0, .int .i64 0] ∧ Fz wr (w.heap.size + 3) ∧ Box wr (w.heap.size + 4) [.int .i64 0, .int .i64 0, .int .i64 0, .int .i64 0, .int .i64 0] ∧ Fz wr (w.heap.size + 4)) (fun _ i _ => m - (intOf i).toNat)
      case atStart => exact ⟨0, (a, b), -1, by omega, rfl, rfl, hide ⟨EA.out, EB.out, rfl⟩, hB, by omega, bR, bA, bAf, bB, bBf, bP, bPf, bQ, bQf⟩
      case round =>
        obtain ⟨k, ⟨⟨p0, p1, p2, p3, p4⟩, ⟨q0, q1, q2, q3, q4⟩⟩, bd, hk, rfl, rfl, HP, hB, hsr, bR, bA, bAf, bB, bBf, bP, bPf, bQ, bQf⟩ := hrel
        change Box wr (w.heap.size + 1) [.int .i64 p0, .int .i64 p1, .int .i64 p2, .int .i64 p3, .int .i64 p4] at bA
        change Box wr (w.heap.size + 2) [.int .i64 q0, .int .i64 q1, .int .i64 q2, .int .i64 q3, .int .i64 q4] at bB
        have HPA := hide HP.out.1
        have HQA := hide HP.out.2.1
        have HST := hide HP.out.2.2
        by_cases hlt : k < m
        · skip
          have hr := HR0.out.below hB hhi
          have hx := HX0.out.below hB hhx
          have hlen : k < L.length := by rw [HL.out]; exact hlt
          obtain ⟨bx, ox, rfl, hx1, hx2, hcx⟩ := hx.2 (by omega)
          obtain ⟨t0, t1⟩ := rRound_at L k hlen
          obtain ⟨⟨x1, x2⟩, hxk⟩ : ∃ x, L[k] = x := ⟨_, rfl⟩
          rw [hxk] at t0 t1
          have HXK := hide hxk
          obtain ⟨⟨⟨r0, r1, r2, r3, r4⟩, ⟨s0, s1, s2, s3, s4⟩⟩, hrc⟩ : ∃ rc, roundC T mg st x1 x2 ((p0, p1, p2, p3, p4), (q0, q1, q2, q3, q4)) = rc := ⟨_, rfl⟩
          have HRC := hide hrc
          have HOK : Hid (ctlOkP (r0, r1, r2, r3, r4) = true ∧ ctlOkP (s0, s1, s2, s3, s4) = true) := by have h := roundC_ok (T := T) (mg := mg) (st := st) (x1 := x1) (x2 := x2) (p := ((p0, p1, p2, p3, p4), (q0, q1, q2, q3, q4))) HPA.out HQA.out; rw [hrc] at h; exact hide h
          clear hxk hrc hx
          have hbx : bx < w.heap.size := by omega
          have bE : BoxO wr bx (ox + k * 2) [.bool x1, .bool x2] := fun i v hv => by match i, hv with | 0, hv => exact hcx _ _ (t0.trans hv) | 1, hv => exact hcx _ _ (t1.trans hv)
          clear hcx t0 t1
          go_upto_region 10 with fail
          go_cut [17, 18] (fun s17 s18 wx => ∃ g h : Nat, s17 = .pointer (some ⟨g, 0, none⟩) ∧ s18 = .pointer (some ⟨h, 0, none⟩) ∧ Box wx g [.int .i64 r0, .int .i64 r1, .int .i64 r2, .int .i64 r3, .int .i64 r4] ∧ Box wx h [.int .i64 s0, .int .i64 s1, .int .i64 s2, .int .i64 s3, .int .i64 s4] ∧ wr.heap.size ≤ g ∧ g < wx.heap.size ∧ wr.heap.size ≤ h ∧ h < wx.heap.size ∧ Below wr.heap.size wr wx)
          case first =>
            have hp : w.heap.size + 6 ≤ wr.heap.size := by omega
            have hSb : ∀ V N : World, w.heap.size + 6 ≤ V.heap.size → Below V.heap.size V N → (Box V (w.heap.size) [.int .i64 mg, .int .i64 st] ∧ Box V (w.heap.size + 1) [.int .i64 p0, .int .i64 p1, .int .i64 p2, .int .i64 p3, .int .i64 p4] ∧ Box V (w.heap.size + 2) [.int .i64 q0, .int .i64 q1, .int .i64 q2, .int .i64 q3, .int .i64 q4] ∧ BoxO V (bx) (ox + k * 2) [.bool x1, .bool x2]) → (Box N (w.heap.size) [.int .i64 mg, .int .i64 st] ∧ Box N (w.heap.size + 1) [.int .i64 p0, .int .i64 p1, .int .i64 p2, .int .i64 p3, .int .i64 p4] ∧ Box N (w.heap.size + 2) [.int .i64 q0, .int .i64 q1, .int .i64 q2, .int .i64 q3, .int .i64 q4] ∧ BoxO N (bx) (ox + k * 2) [.bool x1, .bool x2]) := fun V N hv hb ⟨q0, q1, q2, q3⟩ => ⟨q0.below hb (by omega), q1.below hb (by omega), q2.below hb (by omega), q3.below hb (by omega)⟩
            have hSs : ∀ (V N : World) (g : Nat) (a b c d e : Value), N = (((((V.setCell ⟨g, 0, none⟩ a).setCell ⟨g, 1, none⟩ b).setCell ⟨g, 2, none⟩ c).setCell ⟨g, 3, none⟩ d).setCell ⟨g, 4, none⟩ e) → w.heap.size + 6 ≤ g → (Box V (w.heap.size) [.int .i64 mg, .int .i64 st] ∧ Box V (w.heap.size + 1) [.int .i64 p0, .int .i64 p1, .int .i64 p2, .int .i64 p3, .int .i64 p4] ∧ Box V (w.heap.size + 2) [.int .i64 q0, .int .i64 q1, .int .i64 q2, .int .i64 q3, .int .i64 q4] ∧ BoxO V (bx) (ox + k * 2) [.bool x1, .bool x2]) → (Box N (w.heap.size) [.int .i64 mg, .int .i64 st] ∧ Box N (w.heap.size + 1) [.int .i64 p0, .int .i64 p1, .int .i64 p2, .int .i64 p3, .int .i64 p4] ∧ Box N (w.heap.size + 2) [.int .i64 q0, .int .i64 q1, .int .i64 q2, .int .i64 q3, .int .i64 q4] ∧ BoxO N (bx) (ox + k * 2) [.bool x1, .bool x2]) := fun V N g a b c d e hN hg ⟨q0, q1, q2, q3⟩ => by subst hN; exact ⟨far5B q0 (by omega), far5B q1 (by omega), far5B q2 (by omega), far5O q3 (by omega)⟩
            refine wp_region_held_drew (S := fun W : World => Box W (w.heap.size) [.int .i64 mg, .int .i64 st] ∧ Box W (w.heap.size + 1) [.int .i64 p0, .int .i64 p1, .int .i64 p2, .int .i64 p3, .int .i64 p4] ∧ Box W (w.heap.size + 2) [.int .i64 q0, .int .i64 q1, .int .i64 q2, .int .i64 q3, .int .i64 q4] ∧ BoxO W (bx) (ox + k * 2) [.bool x1, .bool x2]) (by kernel_rfl) (⟨bR, bA, bB, bE⟩) (fun hHeld => ?_)
            try simp only [Array.replicate, List.replicate]
            refine wpAnyH_take (i := 0) (v := ?_) rfl (by kernel_rfl) (by kernel_rfl) (by kernel_rfl) (fun _ _ _ h => h) (Or.inl ⟨by rfl, ?_⟩) (by assumption) ?_
            rotate_left
            · (intro W9 hSw; clear hSw; go_simp; try (with_reducible rfl))
            try simp only [Act.put, y1, y2, y3, y4, y5, y6]
            refine wpAnyH_take (i := 1) (v := ?_) rfl (by kernel_rfl) (by kernel_rfl) (by kernel_rfl) (fun _ _ _ h => h) (Or.inl ⟨by rfl, ?_⟩) (by assumption) ?_
            rotate_left
            · (intro W9 hSw; have k0 := hSw.1; have k0_0 := k0 0 _ rfl; have k0_1 := k0 1 _ rfl; clear hSw k0; go_simp; try (with_reducible rfl))
            try simp only [Act.put, y1, y2, y3, y4, y5, y6]
            refine wpAnyH_take (i := 2) (v := ?_) rfl (by kernel_rfl) (by kernel_rfl) (by kernel_rfl) (fun _ _ _ h => h) (Or.inl ⟨by rfl, ?_⟩) (by assumption) ?_
            rotate_left
            · (intro W9 hSw; have k1 := hSw.2.1; have k1_0 := k1 0 _ rfl; have k1_1 := k1 1 _ rfl; have k1_2 := k1 2 _ rfl; have k1_3 := k1 3 _ rfl; have k1_4 := k1 4 _ rfl; clear hSw k1; go_simp; try (with_reducible rfl))
            try simp only [Act.put, y1, y2, y3, y4, y5, y6]
            refine wpAnyH_take (i := 3) (v := ?_) rfl (by kernel_rfl) (by kernel_rfl) (by kernel_rfl) (fun _ _ _ h => h) (Or.inl ⟨by rfl, ?_⟩) (by assumption) ?_
            rotate_left
            · (intro W9 hSw; have k2 := hSw.2.2.1; have k2_0 := k2 0 _ rfl; have k2_1 := k2 1 _ rfl; have k2_2 := k2 2 _ rfl; have k2_3 := k2 3 _ rfl; have k2_4 := k2 4 _ rfl; clear hSw k2; go_simp; try (with_reducible rfl))
            try simp only [Act.put, y1, y2, y3, y4, y5, y6]
            refine wpAnyH_take (i := 4) (v := ?_) rfl (by kernel_rfl) (by kernel_rfl) (by kernel_rfl) (fun _ _ _ h => h) (Or.inl ⟨by rfl, ?_⟩) (by assumption) ?_
            rotate_left
            · (intro W9 hSw; clear hSw; go_simp; try (with_reducible rfl))
            try simp only [Act.put, y1, y2, y3, y4, y5, y6]
            refine wpAnyH_take (i := 5) (v := ?_) rfl (by kernel_rfl) (by kernel_rfl) (by kernel_rfl) (fun _ _ _ h => h) (Or.inl ⟨by rfl, ?_⟩) (by assumption) ?_
            rotate_left
            · (intro W9 hSw; clear hSw; go_simp; try (with_reducible rfl))
            try simp only [Act.put, y1, y2, y3, y4, y5, y6]
            refine wpAnyH_take (i := 6) (v := ?_) rfl (by kernel_rfl) (by kernel_rfl) (by kernel_rfl) (fun _ _ _ h => h) (Or.inl ⟨by rfl, ?_⟩) (by assumption) ?_
            rotate_left
            · (intro W9 hSw; clear hSw; go_simp; try (with_reducible rfl))
            try simp only [Act.put, y1, y2, y3, y4, y5, y6]
            refine wpAnyH_take (i := 7) (v := ?_) rfl (by kernel_rfl) (by kernel_rfl) (by kernel_rfl) (fun _ _ _ h => h) (Or.inl ⟨by rfl, ?_⟩) (by assumption) ?_
            rotate_left
            · (intro W9 hSw; have k3 := hSw.2.2.2; have k3_0 : W9.cell? ⟨bx, ox + k * 2, none⟩ = some (.bool x1) := k3 0 _ rfl; have k3_1 : W9.cell? ⟨bx, ox + k * 2 + 1, none⟩ = some (.bool x2) := k3 1 _ rfl; clear hSw k3; go_simp; try (with_reducible rfl))
            try simp only [Act.put, y1, y2, y3, y4, y5, y6]
            refine wpAnyH_cap (fun ops' Q' a' hops hQ ha => ?_)
            have L1_22 : Hid (∀ (W : World)  (g0 : Nat) (g1 : Nat), (Box W g0 [.int .i64 r0, .int .i64 r1, .int .i64 r2, .int .i64 r3, .int .i64 r4]) → (g0 < W.heap.size) → (wr.heap.size ≤ g0) → (Box W g1 [.int .i64 s0, .int .i64 s1, .int .i64 s2, .int .i64 s3, .int .i64 s4]) → (g1 < W.heap.size) → (wr.heap.size ≤ g1) → (g0 ≠ g1) → (Box W (w.heap.size) [.int .i64 mg, .int .i64 st] ∧ Box W (w.heap.size + 1) [.int .i64 p0, .int .i64 p1, .int .i64 p2, .int .i64 p3, .int .i64 p4] ∧ Box W (w.heap.size + 2) [.int .i64 q0, .int .i64 q1, .int .i64 q2, .int .i64 q3, .int .i64 q4] ∧ BoxO W (bx) (ox + k * 2) [.bool x1, .bool x2]) → (wr.heap.size ≤ W.heap.size) → (Below wr.heap.size wr W) → wpAnyH Tryz.prog .any ops' Q' (fun W : World => Box W (w.heap.size) [.int .i64 mg, .int .i64 st] ∧ Box W (w.heap.size + 1) [.int .i64 p0, .int .i64 p1, .int .i64 p2, .int .i64 p3, .int .i64 p4] ∧ Box W (w.heap.size + 2) [.int .i64 q0, .int .i64 q1, .int .i64 q2, .int .i64 q3, .int .i64 q4] ∧ BoxO W (bx) (ox + k * 2) [.bool x1, .bool x2]) 0 #[true, true, true, true, true, true, true, true, true, true, true, true, true, true, true, true] (Act.put (Act.put (Act.put (Act.put (Act.put (Act.put a' (some 52) (.tuple #[.agg #[.int .i64 r0, .int .i64 r1, .int .i64 r2, .int .i64 r3, .int .i64 r4], .agg #[.int .i64 s0, .int .i64 s1, .int .i64 s2, .int .i64 s3, .int .i64 s4]])) (some 43) (.tuple #[.agg #[.int .i64 r0, .int .i64 r1, .int .i64 r2, .int .i64 r3, .int .i64 r4], .agg #[.int .i64 s0, .int .i64 s1, .int .i64 s2, .int .i64 s3, .int .i64 s4]])) (some 53) (.agg #[.int .i64 r0, .int .i64 r1, .int .i64 r2, .int .i64 r3, .int .i64 r4])) (some 54) (.agg #[.int .i64 s0, .int .i64 s1, .int .i64 s2, .int .i64 s3, .int .i64 s4])) (some 17) (.pointer (some ⟨g0, 0, none⟩))) (some 18) (.pointer (some ⟨g1, 0, none⟩))) W) := by
             refine hide ?_
             intro W g0 g1 bg0 bl0 bs0 bg1 bl1 bs1 bn hS hs hC
             rw [hops.out, hQ.out, ha.out]
             try simp only [Act.put, y1, y2, y3, y4, y5, y6]
             have hq : w.heap.size + 6 ≤ W.heap.size := Nat.le_trans hp hs
             have hHeld := hS
             refine wpAnyH_done (by kernel_rfl) ?_ _
             go_wp2_with fail
             go_meet
             exact ⟨_, _, rfl, rfl, bg0, bg1, bs0, bl0, bs1, bl1, hC⟩
            have L1_21 : Hid (∀ (W : World)  (g0 : Nat) (g1 : Nat), (Box W g0 [.int .i64 r0, .int .i64 r1, .int .i64 r2, .int .i64 r3, .int .i64 r4]) → (g0 < W.heap.size) → (wr.heap.size ≤ g0) → (Box W g1 [.int .i64 0, .int .i64 0, .int .i64 0, .int .i64 0, .int .i64 0]) → (Fz W g1) → (g1 < W.heap.size) → (wr.heap.size ≤ g1) → (g0 ≠ g1) → (Box W (w.heap.size) [.int .i64 mg, .int .i64 st] ∧ Box W (w.heap.size + 1) [.int .i64 p0, .int .i64 p1, .int .i64 p2, .int .i64 p3, .int .i64 p4] ∧ Box W (w.heap.size + 2) [.int .i64 q0, .int .i64 q1, .int .i64 q2, .int .i64 q3, .int .i64 q4] ∧ BoxO W (bx) (ox + k * 2) [.bool x1, .bool x2]) → (wr.heap.size ≤ W.heap.size) → (Below wr.heap.size wr W) → wpAnyH Tryz.prog .any ops' Q' (fun W : World => Box W (w.heap.size) [.int .i64 mg, .int .i64 st] ∧ Box W (w.heap.size + 1) [.int .i64 p0, .int .i64 p1, .int .i64 p2, .int .i64 p3, .int .i64 p4] ∧ Box W (w.heap.size + 2) [.int .i64 q0, .int .i64 q1, .int .i64 q2, .int .i64 q3, .int .i64 q4] ∧ BoxO W (bx) (ox + k * 2) [.bool x1, .bool x2]) 1 #[true, true, true, true, true, true, true, true, true, true, true, true, true, true, true, false] (Act.put (Act.put (Act.put (Act.put (Act.put (Act.put a' (some 52) (.tuple #[.agg #[.int .i64 r0, .int .i64 r1, .int .i64 r2, .int .i64 r3, .int .i64 r4], .agg #[.int .i64 s0, .int .i64 s1, .int .i64 s2, .int .i64 s3, .int .i64 s4]])) (some 43) (.tuple #[.agg #[.int .i64 r0, .int .i64 r1, .int .i64 r2, .int .i64 r3, .int .i64 r4], .agg #[.int .i64 s0, .int .i64 s1, .int .i64 s2, .int .i64 s3, .int .i64 s4]])) (some 53) (.agg #[.int .i64 r0, .int .i64 r1, .int .i64 r2, .int .i64 r3, .int .i64 r4])) (some 54) (.agg #[.int .i64 s0, .int .i64 s1, .int .i64 s2, .int .i64 s3, .int .i64 s4])) (some 17) (.pointer (some ⟨g0, 0, none⟩))) (some 18) (.pointer (some ⟨g1, 0, none⟩))) W) := by
             refine hide ?_
             intro W g0 g1 bg0 bl0 bs0 bg1 bz1 bl1 bs1 bn hS hs hC
             rw [hops.out, hQ.out, ha.out]
             try simp only [Act.put, y1, y2, y3, y4, y5, y6]
             have hq : w.heap.size + 6 ≤ W.heap.size := Nat.le_trans hp hs
             have lg1_0 := bg1 0 _ rfl; have lz1_0 := bz1 0
             have lg1_1 := bg1 1 _ rfl; have lz1_1 := bz1 1
             have lg1_2 := bg1 2 _ rfl; have lz1_2 := bz1 2
             have lg1_3 := bg1 3 _ rfl; have lz1_3 := bz1 3
             have lg1_4 := bg1 4 _ rfl; have lz1_4 := bz1 4
             refine wpAnyH_ready (rs := [15]) (by kernel_rfl) (by simp) ?_
             refine AllReadyH.cons rfl (fun K hK => ?_) (AllReadyH.nil)
             · go_simp
               obtain ⟨V1, hN⟩ : ∃ V : World, V = (World.setCell (World.setCell (World.setCell (World.setCell (World.setCell W ⟨g1, 0, none⟩ (.int .i64 s0)) ⟨g1, 1, none⟩ (.int .i64 s1)) ⟨g1, 2, none⟩ (.int .i64 s2)) ⟨g1, 3, none⟩ (.int .i64 s3)) ⟨g1, 4, none⟩ (.int .i64 s4)) := ⟨_, rfl⟩
               rw [← hN]
               replace hS := hSs _ _ _ _ _ _ _ _ hN (Nat.le_trans hp bs1) hS
               replace bg1 : Box V1 g1 [.int .i64 s0, .int .i64 s1, .int .i64 s2, .int .i64 s3, .int .i64 s4] := by rw [hN]; exact put5 bg1 rfl
               have hsz : V1.heap.size = W.heap.size := by rw [hN]; exact size5
               replace bl1 : g1 < V1.heap.size := by rw [hsz]; exact bl1
               replace bg0 : Box V1 g0 [.int .i64 r0, .int .i64 r1, .int .i64 r2, .int .i64 r3, .int .i64 r4] := by rw [hN]; exact far5B bg0 (by omega)
               replace bl0 : g0 < V1.heap.size := by rw [hsz]; exact bl0
               replace hC : Below wr.heap.size wr V1 := by rw [hN]; exact below5 bs1 hC
               replace hs : wr.heap.size ≤ V1.heap.size := by rw [hsz]; exact hs
               clear hN hsz
               refine hK.out _ _ hS (fun hHeld => ?_)
               clear hK K
               try simp only [Act.put, y1, y2, y3, y4, y5, y6]
               clear hHeld
               have h := L1_22.out V1 g0 g1 bg0 bl0 bs0 bg1 bl1 bs1 bn hS hs hC
               rw [hops.out, hQ.out, ha.out] at h
               try simp only [Act.put, y1, y2, y3, y4, y5, y6] at h
               exact h
            have L1_11 : Hid (∀ (W : World)  (g0 : Nat) (g1 : Nat), (Box W g0 [.int .i64 0, .int .i64 0, .int .i64 0, .int .i64 0, .int .i64 0]) → (Fz W g0) → (g0 < W.heap.size) → (wr.heap.size ≤ g0) → (Box W g1 [.int .i64 0, .int .i64 0, .int .i64 0, .int .i64 0, .int .i64 0]) → (Fz W g1) → (g1 < W.heap.size) → (wr.heap.size ≤ g1) → (g0 ≠ g1) → (Box W (w.heap.size) [.int .i64 mg, .int .i64 st] ∧ Box W (w.heap.size + 1) [.int .i64 p0, .int .i64 p1, .int .i64 p2, .int .i64 p3, .int .i64 p4] ∧ Box W (w.heap.size + 2) [.int .i64 q0, .int .i64 q1, .int .i64 q2, .int .i64 q3, .int .i64 q4] ∧ BoxO W (bx) (ox + k * 2) [.bool x1, .bool x2]) → (wr.heap.size ≤ W.heap.size) → (Below wr.heap.size wr W) → wpAnyH Tryz.prog .any ops' Q' (fun W : World => Box W (w.heap.size) [.int .i64 mg, .int .i64 st] ∧ Box W (w.heap.size + 1) [.int .i64 p0, .int .i64 p1, .int .i64 p2, .int .i64 p3, .int .i64 p4] ∧ Box W (w.heap.size + 2) [.int .i64 q0, .int .i64 q1, .int .i64 q2, .int .i64 q3, .int .i64 q4] ∧ BoxO W (bx) (ox + k * 2) [.bool x1, .bool x2]) 2 #[true, true, true, true, true, true, true, true, true, true, true, true, true, true, false, false] (Act.put (Act.put (Act.put (Act.put (Act.put (Act.put a' (some 52) (.tuple #[.agg #[.int .i64 r0, .int .i64 r1, .int .i64 r2, .int .i64 r3, .int .i64 r4], .agg #[.int .i64 s0, .int .i64 s1, .int .i64 s2, .int .i64 s3, .int .i64 s4]])) (some 43) (.tuple #[.agg #[.int .i64 r0, .int .i64 r1, .int .i64 r2, .int .i64 r3, .int .i64 r4], .agg #[.int .i64 s0, .int .i64 s1, .int .i64 s2, .int .i64 s3, .int .i64 s4]])) (some 53) (.agg #[.int .i64 r0, .int .i64 r1, .int .i64 r2, .int .i64 r3, .int .i64 r4])) (some 54) (.agg #[.int .i64 s0, .int .i64 s1, .int .i64 s2, .int .i64 s3, .int .i64 s4])) (some 17) (.pointer (some ⟨g0, 0, none⟩))) (some 18) (.pointer (some ⟨g1, 0, none⟩))) W) := by
             refine hide ?_
             intro W g0 g1 bg0 bz0 bl0 bs0 bg1 bz1 bl1 bs1 bn hS hs hC
             rw [hops.out, hQ.out, ha.out]
             try simp only [Act.put, y1, y2, y3, y4, y5, y6]
             have hq : w.heap.size + 6 ≤ W.heap.size := Nat.le_trans hp hs
             have lg0_0 := bg0 0 _ rfl; have lz0_0 := bz0 0
             have lg0_1 := bg0 1 _ rfl; have lz0_1 := bz0 1
             have lg0_2 := bg0 2 _ rfl; have lz0_2 := bz0 2
             have lg0_3 := bg0 3 _ rfl; have lz0_3 := bz0 3
             have lg0_4 := bg0 4 _ rfl; have lz0_4 := bz0 4
             refine wpAnyH_ready (rs := [14]) (by kernel_rfl) (by simp) ?_
             refine AllReadyH.cons rfl (fun K hK => ?_) (AllReadyH.nil)
             · go_simp
               obtain ⟨V1, hN⟩ : ∃ V : World, V = (World.setCell (World.setCell (World.setCell (World.setCell (World.setCell W ⟨g0, 0, none⟩ (.int .i64 r0)) ⟨g0, 1, none⟩ (.int .i64 r1)) ⟨g0, 2, none⟩ (.int .i64 r2)) ⟨g0, 3, none⟩ (.int .i64 r3)) ⟨g0, 4, none⟩ (.int .i64 r4)) := ⟨_, rfl⟩
               rw [← hN]
               replace hS := hSs _ _ _ _ _ _ _ _ hN (Nat.le_trans hp bs0) hS
               replace bg0 : Box V1 g0 [.int .i64 r0, .int .i64 r1, .int .i64 r2, .int .i64 r3, .int .i64 r4] := by rw [hN]; exact put5 bg0 rfl
               have hsz : V1.heap.size = W.heap.size := by rw [hN]; exact size5
               replace bl0 : g0 < V1.heap.size := by rw [hsz]; exact bl0
               replace bg1 : Box V1 g1 [.int .i64 0, .int .i64 0, .int .i64 0, .int .i64 0, .int .i64 0] := by rw [hN]; exact far5B bg1 (by omega)
               replace bz1 : Fz V1 g1 := by rw [hN]; exact ((((bz1.set _ _).set _ _).set _ _).set _ _).set _ _
               replace bl1 : g1 < V1.heap.size := by rw [hsz]; exact bl1
               replace hC : Below wr.heap.size wr V1 := by rw [hN]; exact below5 bs0 hC
               replace hs : wr.heap.size ≤ V1.heap.size := by rw [hsz]; exact hs
               clear hN hsz
               refine hK.out _ _ hS (fun hHeld => ?_)
               clear hK K
               try simp only [Act.put, y1, y2, y3, y4, y5, y6]
               clear hHeld
               have h := L1_21.out V1 g0 g1 bg0 bl0 bs0 bg1 bz1 bl1 bs1 bn hS hs hC
               rw [hops.out, hQ.out, ha.out] at h
               try simp only [Act.put, y1, y2, y3, y4, y5, y6] at h
               exact h
            have L1_01 : Hid (∀ (W : World)  (g1 : Nat), (Box W g1 [.int .i64 0, .int .i64 0, .int .i64 0, .int .i64 0, .int .i64 0]) → (Fz W g1) → (g1 < W.heap.size) → (wr.heap.size ≤ g1) → (Box W (w.heap.size) [.int .i64 mg, .int .i64 st] ∧ Box W (w.heap.size + 1) [.int .i64 p0, .int .i64 p1, .int .i64 p2, .int .i64 p3, .int .i64 p4] ∧ Box W (w.heap.size + 2) [.int .i64 q0, .int .i64 q1, .int .i64 q2, .int .i64 q3, .int .i64 q4] ∧ BoxO W (bx) (ox + k * 2) [.bool x1, .bool x2]) → (wr.heap.size ≤ W.heap.size) → (Below wr.heap.size wr W) → wpAnyH Tryz.prog .any ops' Q' (fun W : World => Box W (w.heap.size) [.int .i64 mg, .int .i64 st] ∧ Box W (w.heap.size + 1) [.int .i64 p0, .int .i64 p1, .int .i64 p2, .int .i64 p3, .int .i64 p4] ∧ Box W (w.heap.size + 2) [.int .i64 q0, .int .i64 q1, .int .i64 q2, .int .i64 q3, .int .i64 q4] ∧ BoxO W (bx) (ox + k * 2) [.bool x1, .bool x2]) 3 #[true, true, true, true, true, true, true, true, true, true, true, true, false, true, false, false] (Act.put (Act.put (Act.put (Act.put (Act.put a' (some 52) (.tuple #[.agg #[.int .i64 r0, .int .i64 r1, .int .i64 r2, .int .i64 r3, .int .i64 r4], .agg #[.int .i64 s0, .int .i64 s1, .int .i64 s2, .int .i64 s3, .int .i64 s4]])) (some 43) (.tuple #[.agg #[.int .i64 r0, .int .i64 r1, .int .i64 r2, .int .i64 r3, .int .i64 r4], .agg #[.int .i64 s0, .int .i64 s1, .int .i64 s2, .int .i64 s3, .int .i64 s4]])) (some 53) (.agg #[.int .i64 r0, .int .i64 r1, .int .i64 r2, .int .i64 r3, .int .i64 r4])) (some 54) (.agg #[.int .i64 s0, .int .i64 s1, .int .i64 s2, .int .i64 s3, .int .i64 s4])) (some 18) (.pointer (some ⟨g1, 0, none⟩))) W) := by
             refine hide ?_
             intro W g1 bg1 bz1 bl1 bs1 hS hs hC
             rw [hops.out, hQ.out, ha.out]
             try simp only [Act.put, y1, y2, y3, y4, y5, y6]
             have hq : w.heap.size + 6 ≤ W.heap.size := Nat.le_trans hp hs
             refine wpAnyH_ready (rs := [12]) (by kernel_rfl) (by simp) ?_
             refine AllReadyH.cons rfl (fun K hK => ?_) (AllReadyH.nil)
             · go_simp
               obtain ⟨V1, hN⟩ : ∃ V : World, V = World.alloc W (.cells #[.int .i64 0, .int .i64 0, .int .i64 0, .int .i64 0, .int .i64 0] 28) := ⟨_, rfl⟩
               rw [← hN]
               have hb : Below W.heap.size W V1 := by rw [hN]; exact (Below.refl _ _).alloc (Nat.le_refl _) _
               have bg0 : Box V1 W.heap.size [.int .i64 0, .int .i64 0, .int .i64 0, .int .i64 0, .int .i64 0] := by rw [hN]; exact box_new W #[.int .i64 0, .int .i64 0, .int .i64 0, .int .i64 0, .int .i64 0] 28
               have bz0 : Fz V1 W.heap.size := by rw [hN]; exact fz_at W #[.int .i64 0, .int .i64 0, .int .i64 0, .int .i64 0, .int .i64 0] 28 _ rfl
               have bl0 : W.heap.size < V1.heap.size := by rw [hN]; simp
               have bs0 : wr.heap.size ≤ W.heap.size := hs
               have bn : W.heap.size ≠ g1 := by omega
               clear hN
               replace bg1 := Box.below bg1 hb bl1
               replace bz1 := Fz.below bz1 hb bl1
               replace bl1 := Nat.lt_of_lt_of_le bl1 hb.size
               replace hS := hSb _ _ hq hb hS
               replace hC := hC.trans (hb.mono hs)
               replace hs := Nat.le_trans hs hb.size
               clear hb
               refine hK.out _ _ hS (fun hHeld => ?_)
               clear hK K
               try simp only [Act.put, y1, y2, y3, y4, y5, y6]
               clear hHeld
               have h := L1_11.out V1 W.heap.size g1 bg0 bz0 bl0 bs0 bg1 bz1 bl1 bs1 bn hS hs hC
               rw [hops.out, hQ.out, ha.out] at h
               try simp only [Act.put, y1, y2, y3, y4, y5, y6] at h
               exact h
            have L1_10 : Hid (∀ (W : World)  (g0 : Nat), (Box W g0 [.int .i64 0, .int .i64 0, .int .i64 0, .int .i64 0, .int .i64 0]) → (Fz W g0) → (g0 < W.heap.size) → (wr.heap.size ≤ g0) → (Box W (w.heap.size) [.int .i64 mg, .int .i64 st] ∧ Box W (w.heap.size + 1) [.int .i64 p0, .int .i64 p1, .int .i64 p2, .int .i64 p3, .int .i64 p4] ∧ Box W (w.heap.size + 2) [.int .i64 q0, .int .i64 q1, .int .i64 q2, .int .i64 q3, .int .i64 q4] ∧ BoxO W (bx) (ox + k * 2) [.bool x1, .bool x2]) → (wr.heap.size ≤ W.heap.size) → (Below wr.heap.size wr W) → wpAnyH Tryz.prog .any ops' Q' (fun W : World => Box W (w.heap.size) [.int .i64 mg, .int .i64 st] ∧ Box W (w.heap.size + 1) [.int .i64 p0, .int .i64 p1, .int .i64 p2, .int .i64 p3, .int .i64 p4] ∧ Box W (w.heap.size + 2) [.int .i64 q0, .int .i64 q1, .int .i64 q2, .int .i64 q3, .int .i64 q4] ∧ BoxO W (bx) (ox + k * 2) [.bool x1, .bool x2]) 3 #[true, true, true, true, true, true, true, true, true, true, true, true, true, false, false, false] (Act.put (Act.put (Act.put (Act.put (Act.put a' (some 52) (.tuple #[.agg #[.int .i64 r0, .int .i64 r1, .int .i64 r2, .int .i64 r3, .int .i64 r4], .agg #[.int .i64 s0, .int .i64 s1, .int .i64 s2, .int .i64 s3, .int .i64 s4]])) (some 43) (.tuple #[.agg #[.int .i64 r0, .int .i64 r1, .int .i64 r2, .int .i64 r3, .int .i64 r4], .agg #[.int .i64 s0, .int .i64 s1, .int .i64 s2, .int .i64 s3, .int .i64 s4]])) (some 53) (.agg #[.int .i64 r0, .int .i64 r1, .int .i64 r2, .int .i64 r3, .int .i64 r4])) (some 54) (.agg #[.int .i64 s0, .int .i64 s1, .int .i64 s2, .int .i64 s3, .int .i64 s4])) (some 17) (.pointer (some ⟨g0, 0, none⟩))) W) := by
             refine hide ?_
             intro W g0 bg0 bz0 bl0 bs0 hS hs hC
             rw [hops.out, hQ.out, ha.out]
             try simp only [Act.put, y1, y2, y3, y4, y5, y6]
             have hq : w.heap.size + 6 ≤ W.heap.size := Nat.le_trans hp hs
             refine wpAnyH_ready (rs := [13]) (by kernel_rfl) (by simp) ?_
             refine AllReadyH.cons rfl (fun K hK => ?_) (AllReadyH.nil)
             · go_simp
               obtain ⟨V1, hN⟩ : ∃ V : World, V = World.alloc W (.cells #[.int .i64 0, .int .i64 0, .int .i64 0, .int .i64 0, .int .i64 0] 28) := ⟨_, rfl⟩
               rw [← hN]
               have hb : Below W.heap.size W V1 := by rw [hN]; exact (Below.refl _ _).alloc (Nat.le_refl _) _
               have bg1 : Box V1 W.heap.size [.int .i64 0, .int .i64 0, .int .i64 0, .int .i64 0, .int .i64 0] := by rw [hN]; exact box_new W #[.int .i64 0, .int .i64 0, .int .i64 0, .int .i64 0, .int .i64 0] 28
               have bz1 : Fz V1 W.heap.size := by rw [hN]; exact fz_at W #[.int .i64 0, .int .i64 0, .int .i64 0, .int .i64 0, .int .i64 0] 28 _ rfl
               have bl1 : W.heap.size < V1.heap.size := by rw [hN]; simp
               have bs1 : wr.heap.size ≤ W.heap.size := hs
               have bn : g0 ≠ W.heap.size := by omega
               clear hN
               replace bg0 := Box.below bg0 hb bl0
               replace bz0 := Fz.below bz0 hb bl0
               replace bl0 := Nat.lt_of_lt_of_le bl0 hb.size
               replace hS := hSb _ _ hq hb hS
               replace hC := hC.trans (hb.mono hs)
               replace hs := Nat.le_trans hs hb.size
               clear hb
               refine hK.out _ _ hS (fun hHeld => ?_)
               clear hK K
               try simp only [Act.put, y1, y2, y3, y4, y5, y6]
               clear hHeld
               have h := L1_11.out V1 g0 W.heap.size bg0 bz0 bl0 bs0 bg1 bz1 bl1 bs1 bn hS hs hC
               rw [hops.out, hQ.out, ha.out] at h
               try simp only [Act.put, y1, y2, y3, y4, y5, y6] at h
               exact h
            have L1_00 : Hid (∀ (W : World) , (Box W (w.heap.size) [.int .i64 mg, .int .i64 st] ∧ Box W (w.heap.size + 1) [.int .i64 p0, .int .i64 p1, .int .i64 p2, .int .i64 p3, .int .i64 p4] ∧ Box W (w.heap.size + 2) [.int .i64 q0, .int .i64 q1, .int .i64 q2, .int .i64 q3, .int .i64 q4] ∧ BoxO W (bx) (ox + k * 2) [.bool x1, .bool x2]) → (wr.heap.size ≤ W.heap.size) → (Below wr.heap.size wr W) → wpAnyH Tryz.prog .any ops' Q' (fun W : World => Box W (w.heap.size) [.int .i64 mg, .int .i64 st] ∧ Box W (w.heap.size + 1) [.int .i64 p0, .int .i64 p1, .int .i64 p2, .int .i64 p3, .int .i64 p4] ∧ Box W (w.heap.size + 2) [.int .i64 q0, .int .i64 q1, .int .i64 q2, .int .i64 q3, .int .i64 q4] ∧ BoxO W (bx) (ox + k * 2) [.bool x1, .bool x2]) 4 #[true, true, true, true, true, true, true, true, true, true, true, true, false, false, false, false] (Act.put (Act.put (Act.put (Act.put a' (some 52) (.tuple #[.agg #[.int .i64 r0, .int .i64 r1, .int .i64 r2, .int .i64 r3, .int .i64 r4], .agg #[.int .i64 s0, .int .i64 s1, .int .i64 s2, .int .i64 s3, .int .i64 s4]])) (some 43) (.tuple #[.agg #[.int .i64 r0, .int .i64 r1, .int .i64 r2, .int .i64 r3, .int .i64 r4], .agg #[.int .i64 s0, .int .i64 s1, .int .i64 s2, .int .i64 s3, .int .i64 s4]])) (some 53) (.agg #[.int .i64 r0, .int .i64 r1, .int .i64 r2, .int .i64 r3, .int .i64 r4])) (some 54) (.agg #[.int .i64 s0, .int .i64 s1, .int .i64 s2, .int .i64 s3, .int .i64 s4])) W) := by
             refine hide ?_
             intro W  hS hs hC
             rw [hops.out, hQ.out, ha.out]
             try simp only [Act.put, y1, y2, y3, y4, y5, y6]
             have hq : w.heap.size + 6 ≤ W.heap.size := Nat.le_trans hp hs
             refine wpAnyH_ready (rs := [12, 13]) (by kernel_rfl) (by simp) ?_
             refine AllReadyH.cons rfl (fun K hK => ?_) (AllReadyH.cons rfl (fun K hK => ?_) (AllReadyH.nil))
             · go_simp
               obtain ⟨V1, hN⟩ : ∃ V : World, V = World.alloc W (.cells #[.int .i64 0, .int .i64 0, .int .i64 0, .int .i64 0, .int .i64 0] 28) := ⟨_, rfl⟩
               rw [← hN]
               have hb : Below W.heap.size W V1 := by rw [hN]; exact (Below.refl _ _).alloc (Nat.le_refl _) _
               have bg0 : Box V1 W.heap.size [.int .i64 0, .int .i64 0, .int .i64 0, .int .i64 0, .int .i64 0] := by rw [hN]; exact box_new W #[.int .i64 0, .int .i64 0, .int .i64 0, .int .i64 0, .int .i64 0] 28
               have bz0 : Fz V1 W.heap.size := by rw [hN]; exact fz_at W #[.int .i64 0, .int .i64 0, .int .i64 0, .int .i64 0, .int .i64 0] 28 _ rfl
               have bl0 : W.heap.size < V1.heap.size := by rw [hN]; simp
               have bs0 : wr.heap.size ≤ W.heap.size := hs
               clear hN
               replace hS := hSb _ _ hq hb hS
               replace hC := hC.trans (hb.mono hs)
               replace hs := Nat.le_trans hs hb.size
               clear hb
               refine hK.out _ _ hS (fun hHeld => ?_)
               clear hK K
               try simp only [Act.put, y1, y2, y3, y4, y5, y6]
               clear hHeld
               have h := L1_10.out V1 W.heap.size bg0 bz0 bl0 bs0 hS hs hC
               rw [hops.out, hQ.out, ha.out] at h
               try simp only [Act.put, y1, y2, y3, y4, y5, y6] at h
               exact h
             · go_simp
               obtain ⟨V1, hN⟩ : ∃ V : World, V = World.alloc W (.cells #[.int .i64 0, .int .i64 0, .int .i64 0, .int .i64 0, .int .i64 0] 28) := ⟨_, rfl⟩
               rw [← hN]
               have hb : Below W.heap.size W V1 := by rw [hN]; exact (Below.refl _ _).alloc (Nat.le_refl _) _
               have bg1 : Box V1 W.heap.size [.int .i64 0, .int .i64 0, .int .i64 0, .int .i64 0, .int .i64 0] := by rw [hN]; exact box_new W #[.int .i64 0, .int .i64 0, .int .i64 0, .int .i64 0, .int .i64 0] 28
               have bz1 : Fz V1 W.heap.size := by rw [hN]; exact fz_at W #[.int .i64 0, .int .i64 0, .int .i64 0, .int .i64 0, .int .i64 0] 28 _ rfl
               have bl1 : W.heap.size < V1.heap.size := by rw [hN]; simp
               have bs1 : wr.heap.size ≤ W.heap.size := hs
               clear hN
               replace hS := hSb _ _ hq hb hS
               replace hC := hC.trans (hb.mono hs)
               replace hs := Nat.le_trans hs hb.size
               clear hb
               refine hK.out _ _ hS (fun hHeld => ?_)
               clear hK K
               try simp only [Act.put, y1, y2, y3, y4, y5, y6]
               clear hHeld
               have h := L1_01.out V1 W.heap.size bg1 bz1 bl1 bs1 hS hs hC
               rw [hops.out, hQ.out, ha.out] at h
               try simp only [Act.put, y1, y2, y3, y4, y5, y6] at h
               exact h
            have L0_11 : Hid (∀ (W : World)  (g0 : Nat) (g1 : Nat), (RdSS W lo hi A n (rrBool T)) → (hi ≤ W.heap.size) → (Box W g0 [.int .i64 0, .int .i64 0, .int .i64 0, .int .i64 0, .int .i64 0]) → (Fz W g0) → (g0 < W.heap.size) → (wr.heap.size ≤ g0) → (Box W g1 [.int .i64 0, .int .i64 0, .int .i64 0, .int .i64 0, .int .i64 0]) → (Fz W g1) → (g1 < W.heap.size) → (wr.heap.size ≤ g1) → (g0 ≠ g1) → (Box W (w.heap.size) [.int .i64 mg, .int .i64 st] ∧ Box W (w.heap.size + 1) [.int .i64 p0, .int .i64 p1, .int .i64 p2, .int .i64 p3, .int .i64 p4] ∧ Box W (w.heap.size + 2) [.int .i64 q0, .int .i64 q1, .int .i64 q2, .int .i64 q3, .int .i64 q4] ∧ BoxO W (bx) (ox + k * 2) [.bool x1, .bool x2]) → (wr.heap.size ≤ W.heap.size) → (Below wr.heap.size wr W) → wpAnyH Tryz.prog .any ops' Q' (fun W : World => Box W (w.heap.size) [.int .i64 mg, .int .i64 st] ∧ Box W (w.heap.size + 1) [.int .i64 p0, .int .i64 p1, .int .i64 p2, .int .i64 p3, .int .i64 p4] ∧ Box W (w.heap.size + 2) [.int .i64 q0, .int .i64 q1, .int .i64 q2, .int .i64 q3, .int .i64 q4] ∧ BoxO W (bx) (ox + k * 2) [.bool x1, .bool x2]) 6 #[true, true, true, true, true, true, true, true, false, false, false, false, true, true, false, false] (Act.put (Act.put a' (some 17) (.pointer (some ⟨g0, 0, none⟩))) (some 18) (.pointer (some ⟨g1, 0, none⟩))) W) := by
             refine hide ?_
             intro W g0 g1 hrow hHi bg0 bz0 bl0 bs0 bg1 bz1 bl1 bs1 bn hS hs hC
             rw [hops.out, hQ.out, ha.out]
             try simp only [Act.put, y1, y2, y3, y4, y5, y6]
             have hq : w.heap.size + 6 ≤ W.heap.size := Nat.le_trans hp hs
             refine wpAnyH_ready (rs := [8]) (by kernel_rfl) (by simp) ?_
             refine AllReadyH.cons rfl (fun K hK => ?_) (AllReadyH.nil)
             · go_simp
               refine (l18Round_as A n c lo hi T E0 mg st p0 p1 p2 p3 p4 q0 q1 q2 q3 q4 x1 x2 E1 HPA HQA _ HRC hrow hHi).mono ?_
               rintro e V1 ⟨rfl, hb⟩
               replace hrow := hrow.below hb hHi
               replace hHi := Nat.le_trans hHi hb.size
               replace bg0 := Box.below bg0 hb bl0
               replace bz0 := Fz.below bz0 hb bl0
               replace bl0 := Nat.lt_of_lt_of_le bl0 hb.size
               replace bg1 := Box.below bg1 hb bl1
               replace bz1 := Fz.below bz1 hb bl1
               replace bl1 := Nat.lt_of_lt_of_le bl1 hb.size
               replace hS := hSb _ _ hq hb hS
               replace hC := hC.trans (hb.mono hs)
               replace hs := Nat.le_trans hs hb.size
               clear hb
               refine hK.out _ _ hS (fun hHeld => ?_)
               clear hK K
               try simp only [Act.put, y1, y2, y3, y4, y5, y6]
               refine wpAnyH_take (i := 9) (v := ?_) rfl (by kernel_rfl) (by kernel_rfl) (by kernel_rfl) (fun _ _ _ h => h) (Or.inl ⟨by rfl, ?_⟩) (by assumption) ?_
               rotate_left
               · (intro W9 hSw; clear hSw; go_simp; try (with_reducible rfl))
               try simp only [Act.put, y1, y2, y3, y4, y5, y6]
               refine wpAnyH_take (i := 10) (v := ?_) rfl (by kernel_rfl) (by kernel_rfl) (by kernel_rfl) (fun _ _ _ h => h) (Or.inl ⟨by rfl, ?_⟩) (by assumption) ?_
               rotate_left
               · (intro W9 hSw; clear hSw; go_simp; try (with_reducible rfl))
               try simp only [Act.put, y1, y2, y3, y4, y5, y6]
               refine wpAnyH_take (i := 11) (v := ?_) rfl (by kernel_rfl) (by kernel_rfl) (by kernel_rfl) (fun _ _ _ h => h) (Or.inl ⟨by rfl, ?_⟩) (by assumption) ?_
               rotate_left
               · (intro W9 hSw; clear hSw; go_simp; try (with_reducible rfl))
               try simp only [Act.put, y1, y2, y3, y4, y5, y6]
               clear hHeld
               have h := L1_11.out V1 g0 g1 bg0 bz0 bl0 bs0 bg1 bz1 bl1 bs1 bn hS hs hC
               rw [hops.out, hQ.out, ha.out] at h
               try simp only [Act.put, y1, y2, y3, y4, y5, y6] at h
               exact h
            have L0_01 : Hid (∀ (W : World)  (g1 : Nat), (RdSS W lo hi A n (rrBool T)) → (hi ≤ W.heap.size) → (Box W g1 [.int .i64 0, .int .i64 0, .int .i64 0, .int .i64 0, .int .i64 0]) → (Fz W g1) → (g1 < W.heap.size) → (wr.heap.size ≤ g1) → (Box W (w.heap.size) [.int .i64 mg, .int .i64 st] ∧ Box W (w.heap.size + 1) [.int .i64 p0, .int .i64 p1, .int .i64 p2, .int .i64 p3, .int .i64 p4] ∧ Box W (w.heap.size + 2) [.int .i64 q0, .int .i64 q1, .int .i64 q2, .int .i64 q3, .int .i64 q4] ∧ BoxO W (bx) (ox + k * 2) [.bool x1, .bool x2]) → (wr.heap.size ≤ W.heap.size) → (Below wr.heap.size wr W) → wpAnyH Tryz.prog .any ops' Q' (fun W : World => Box W (w.heap.size) [.int .i64 mg, .int .i64 st] ∧ Box W (w.heap.size + 1) [.int .i64 p0, .int .i64 p1, .int .i64 p2, .int .i64 p3, .int .i64 p4] ∧ Box W (w.heap.size + 2) [.int .i64 q0, .int .i64 q1, .int .i64 q2, .int .i64 q3, .int .i64 q4] ∧ BoxO W (bx) (ox + k * 2) [.bool x1, .bool x2]) 7 #[true, true, true, true, true, true, true, true, false, false, false, false, false, true, false, false] (Act.put a' (some 18) (.pointer (some ⟨g1, 0, none⟩))) W) := by
             refine hide ?_
             intro W g1 hrow hHi bg1 bz1 bl1 bs1 hS hs hC
             rw [hops.out, hQ.out, ha.out]
             try simp only [Act.put, y1, y2, y3, y4, y5, y6]
             have hq : w.heap.size + 6 ≤ W.heap.size := Nat.le_trans hp hs
             refine wpAnyH_ready (rs := [8, 12]) (by kernel_rfl) (by simp) ?_
             refine AllReadyH.cons rfl (fun K hK => ?_) (AllReadyH.cons rfl (fun K hK => ?_) (AllReadyH.nil))
             · go_simp
               refine (l18Round_as A n c lo hi T E0 mg st p0 p1 p2 p3 p4 q0 q1 q2 q3 q4 x1 x2 E1 HPA HQA _ HRC hrow hHi).mono ?_
               rintro e V1 ⟨rfl, hb⟩
               replace hrow := hrow.below hb hHi
               replace hHi := Nat.le_trans hHi hb.size
               replace bg1 := Box.below bg1 hb bl1
               replace bz1 := Fz.below bz1 hb bl1
               replace bl1 := Nat.lt_of_lt_of_le bl1 hb.size
               replace hS := hSb _ _ hq hb hS
               replace hC := hC.trans (hb.mono hs)
               replace hs := Nat.le_trans hs hb.size
               clear hb
               refine hK.out _ _ hS (fun hHeld => ?_)
               clear hK K
               try simp only [Act.put, y1, y2, y3, y4, y5, y6]
               refine wpAnyH_take (i := 9) (v := ?_) rfl (by kernel_rfl) (by kernel_rfl) (by kernel_rfl) (fun _ _ _ h => h) (Or.inl ⟨by rfl, ?_⟩) (by assumption) ?_
               rotate_left
               · (intro W9 hSw; clear hSw; go_simp; try (with_reducible rfl))
               try simp only [Act.put, y1, y2, y3, y4, y5, y6]
               refine wpAnyH_take (i := 10) (v := ?_) rfl (by kernel_rfl) (by kernel_rfl) (by kernel_rfl) (fun _ _ _ h => h) (Or.inl ⟨by rfl, ?_⟩) (by assumption) ?_
               rotate_left
               · (intro W9 hSw; clear hSw; go_simp; try (with_reducible rfl))
               try simp only [Act.put, y1, y2, y3, y4, y5, y6]
               refine wpAnyH_take (i := 11) (v := ?_) rfl (by kernel_rfl) (by kernel_rfl) (by kernel_rfl) (fun _ _ _ h => h) (Or.inl ⟨by rfl, ?_⟩) (by assumption) ?_
               rotate_left
               · (intro W9 hSw; clear hSw; go_simp; try (with_reducible rfl))
               try simp only [Act.put, y1, y2, y3, y4, y5, y6]
               clear hHeld
               have h := L1_01.out V1 g1 bg1 bz1 bl1 bs1 hS hs hC
               rw [hops.out, hQ.out, ha.out] at h
               try simp only [Act.put, y1, y2, y3, y4, y5, y6] at h
               exact h
             · go_simp
               obtain ⟨V1, hN⟩ : ∃ V : World, V = World.alloc W (.cells #[.int .i64 0, .int .i64 0, .int .i64 0, .int .i64 0, .int .i64 0] 28) := ⟨_, rfl⟩
               rw [← hN]
               have hb : Below W.heap.size W V1 := by rw [hN]; exact (Below.refl _ _).alloc (Nat.le_refl _) _
               have bg0 : Box V1 W.heap.size [.int .i64 0, .int .i64 0, .int .i64 0, .int .i64 0, .int .i64 0] := by rw [hN]; exact box_new W #[.int .i64 0, .int .i64 0, .int .i64 0, .int .i64 0, .int .i64 0] 28
               have bz0 : Fz V1 W.heap.size := by rw [hN]; exact fz_at W #[.int .i64 0, .int .i64 0, .int .i64 0, .int .i64 0, .int .i64 0] 28 _ rfl
               have bl0 : W.heap.size < V1.heap.size := by rw [hN]; simp
               have bs0 : wr.heap.size ≤ W.heap.size := hs
               have bn : W.heap.size ≠ g1 := by omega
               clear hN
               replace hrow := hrow.below hb hHi
               replace hHi := Nat.le_trans hHi hb.size
               replace bg1 := Box.below bg1 hb bl1
               replace bz1 := Fz.below bz1 hb bl1
               replace bl1 := Nat.lt_of_lt_of_le bl1 hb.size
               replace hS := hSb _ _ hq hb hS
               replace hC := hC.trans (hb.mono hs)
               replace hs := Nat.le_trans hs hb.size
               clear hb
               refine hK.out _ _ hS (fun hHeld => ?_)
               clear hK K
               try simp only [Act.put, y1, y2, y3, y4, y5, y6]
               clear hHeld
               have h := L0_11.out V1 W.heap.size g1 hrow hHi bg0 bz0 bl0 bs0 bg1 bz1 bl1 bs1 bn hS hs hC
               rw [hops.out, hQ.out, ha.out] at h
               try simp only [Act.put, y1, y2, y3, y4, y5, y6] at h
               exact h
            have L0_10 : Hid (∀ (W : World)  (g0 : Nat), (RdSS W lo hi A n (rrBool T)) → (hi ≤ W.heap.size) → (Box W g0 [.int .i64 0, .int .i64 0, .int .i64 0, .int .i64 0, .int .i64 0]) → (Fz W g0) → (g0 < W.heap.size) → (wr.heap.size ≤ g0) → (Box W (w.heap.size) [.int .i64 mg, .int .i64 st] ∧ Box W (w.heap.size + 1) [.int .i64 p0, .int .i64 p1, .int .i64 p2, .int .i64 p3, .int .i64 p4] ∧ Box W (w.heap.size + 2) [.int .i64 q0, .int .i64 q1, .int .i64 q2, .int .i64 q3, .int .i64 q4] ∧ BoxO W (bx) (ox + k * 2) [.bool x1, .bool x2]) → (wr.heap.size ≤ W.heap.size) → (Below wr.heap.size wr W) → wpAnyH Tryz.prog .any ops' Q' (fun W : World => Box W (w.heap.size) [.int .i64 mg, .int .i64 st] ∧ Box W (w.heap.size + 1) [.int .i64 p0, .int .i64 p1, .int .i64 p2, .int .i64 p3, .int .i64 p4] ∧ Box W (w.heap.size + 2) [.int .i64 q0, .int .i64 q1, .int .i64 q2, .int .i64 q3, .int .i64 q4] ∧ BoxO W (bx) (ox + k * 2) [.bool x1, .bool x2]) 7 #[true, true, true, true, true, true, true, true, false, false, false, false, true, false, false, false] (Act.put a' (some 17) (.pointer (some ⟨g0, 0, none⟩))) W) := by
             refine hide ?_
             intro W g0 hrow hHi bg0 bz0 bl0 bs0 hS hs hC
             rw [hops.out, hQ.out, ha.out]
             try simp only [Act.put, y1, y2, y3, y4, y5, y6]
             have hq : w.heap.size + 6 ≤ W.heap.size := Nat.le_trans hp hs
             refine wpAnyH_ready (rs := [8, 13]) (by kernel_rfl) (by simp) ?_
             refine AllReadyH.cons rfl (fun K hK => ?_) (AllReadyH.cons rfl (fun K hK => ?_) (AllReadyH.nil))
             · go_simp
               refine (l18Round_as A n c lo hi T E0 mg st p0 p1 p2 p3 p4 q0 q1 q2 q3 q4 x1 x2 E1 HPA HQA _ HRC hrow hHi).mono ?_
               rintro e V1 ⟨rfl, hb⟩
               replace hrow := hrow.below hb hHi
               replace hHi := Nat.le_trans hHi hb.size
               replace bg0 := Box.below bg0 hb bl0
               replace bz0 := Fz.below bz0 hb bl0
               replace bl0 := Nat.lt_of_lt_of_le bl0 hb.size
               replace hS := hSb _ _ hq hb hS
               replace hC := hC.trans (hb.mono hs)
               replace hs := Nat.le_trans hs hb.size
               clear hb
               refine hK.out _ _ hS (fun hHeld => ?_)
               clear hK K
               try simp only [Act.put, y1, y2, y3, y4, y5, y6]
               refine wpAnyH_take (i := 9) (v := ?_) rfl (by kernel_rfl) (by kernel_rfl) (by kernel_rfl) (fun _ _ _ h => h) (Or.inl ⟨by rfl, ?_⟩) (by assumption) ?_
               rotate_left
               · (intro W9 hSw; clear hSw; go_simp; try (with_reducible rfl))
               try simp only [Act.put, y1, y2, y3, y4, y5, y6]
               refine wpAnyH_take (i := 10) (v := ?_) rfl (by kernel_rfl) (by kernel_rfl) (by kernel_rfl) (fun _ _ _ h => h) (Or.inl ⟨by rfl, ?_⟩) (by assumption) ?_
               rotate_left
               · (intro W9 hSw; clear hSw; go_simp; try (with_reducible rfl))
               try simp only [Act.put, y1, y2, y3, y4, y5, y6]
               refine wpAnyH_take (i := 11) (v := ?_) rfl (by kernel_rfl) (by kernel_rfl) (by kernel_rfl) (fun _ _ _ h => h) (Or.inl ⟨by rfl, ?_⟩) (by assumption) ?_
               rotate_left
               · (intro W9 hSw; clear hSw; go_simp; try (with_reducible rfl))
               try simp only [Act.put, y1, y2, y3, y4, y5, y6]
               clear hHeld
               have h := L1_10.out V1 g0 bg0 bz0 bl0 bs0 hS hs hC
               rw [hops.out, hQ.out, ha.out] at h
               try simp only [Act.put, y1, y2, y3, y4, y5, y6] at h
               exact h
             · go_simp
               obtain ⟨V1, hN⟩ : ∃ V : World, V = World.alloc W (.cells #[.int .i64 0, .int .i64 0, .int .i64 0, .int .i64 0, .int .i64 0] 28) := ⟨_, rfl⟩
               rw [← hN]
               have hb : Below W.heap.size W V1 := by rw [hN]; exact (Below.refl _ _).alloc (Nat.le_refl _) _
               have bg1 : Box V1 W.heap.size [.int .i64 0, .int .i64 0, .int .i64 0, .int .i64 0, .int .i64 0] := by rw [hN]; exact box_new W #[.int .i64 0, .int .i64 0, .int .i64 0, .int .i64 0, .int .i64 0] 28
               have bz1 : Fz V1 W.heap.size := by rw [hN]; exact fz_at W #[.int .i64 0, .int .i64 0, .int .i64 0, .int .i64 0, .int .i64 0] 28 _ rfl
               have bl1 : W.heap.size < V1.heap.size := by rw [hN]; simp
               have bs1 : wr.heap.size ≤ W.heap.size := hs
               have bn : g0 ≠ W.heap.size := by omega
               clear hN
               replace hrow := hrow.below hb hHi
               replace hHi := Nat.le_trans hHi hb.size
               replace bg0 := Box.below bg0 hb bl0
               replace bz0 := Fz.below bz0 hb bl0
               replace bl0 := Nat.lt_of_lt_of_le bl0 hb.size
               replace hS := hSb _ _ hq hb hS
               replace hC := hC.trans (hb.mono hs)
               replace hs := Nat.le_trans hs hb.size
               clear hb
               refine hK.out _ _ hS (fun hHeld => ?_)
               clear hK K
               try simp only [Act.put, y1, y2, y3, y4, y5, y6]
               clear hHeld
               have h := L0_11.out V1 g0 W.heap.size hrow hHi bg0 bz0 bl0 bs0 bg1 bz1 bl1 bs1 bn hS hs hC
               rw [hops.out, hQ.out, ha.out] at h
               try simp only [Act.put, y1, y2, y3, y4, y5, y6] at h
               exact h
            have L0_00 : Hid (∀ (W : World) , (RdSS W lo hi A n (rrBool T)) → (hi ≤ W.heap.size) → (Box W (w.heap.size) [.int .i64 mg, .int .i64 st] ∧ Box W (w.heap.size + 1) [.int .i64 p0, .int .i64 p1, .int .i64 p2, .int .i64 p3, .int .i64 p4] ∧ Box W (w.heap.size + 2) [.int .i64 q0, .int .i64 q1, .int .i64 q2, .int .i64 q3, .int .i64 q4] ∧ BoxO W (bx) (ox + k * 2) [.bool x1, .bool x2]) → (wr.heap.size ≤ W.heap.size) → (Below wr.heap.size wr W) → wpAnyH Tryz.prog .any ops' Q' (fun W : World => Box W (w.heap.size) [.int .i64 mg, .int .i64 st] ∧ Box W (w.heap.size + 1) [.int .i64 p0, .int .i64 p1, .int .i64 p2, .int .i64 p3, .int .i64 p4] ∧ Box W (w.heap.size + 2) [.int .i64 q0, .int .i64 q1, .int .i64 q2, .int .i64 q3, .int .i64 q4] ∧ BoxO W (bx) (ox + k * 2) [.bool x1, .bool x2]) 8 #[true, true, true, true, true, true, true, true, false, false, false, false, false, false, false, false] a' W) := by
             refine hide ?_
             intro W  hrow hHi hS hs hC
             rw [hops.out, hQ.out, ha.out]
             try simp only [Act.put, y1, y2, y3, y4, y5, y6]
             have hq : w.heap.size + 6 ≤ W.heap.size := Nat.le_trans hp hs
             refine wpAnyH_ready (rs := [8, 12, 13]) (by kernel_rfl) (by simp) ?_
             refine AllReadyH.cons rfl (fun K hK => ?_) (AllReadyH.cons rfl (fun K hK => ?_) (AllReadyH.cons rfl (fun K hK => ?_) (AllReadyH.nil)))
             · go_simp
               refine (l18Round_as A n c lo hi T E0 mg st p0 p1 p2 p3 p4 q0 q1 q2 q3 q4 x1 x2 E1 HPA HQA _ HRC hrow hHi).mono ?_
               rintro e V1 ⟨rfl, hb⟩
               replace hrow := hrow.below hb hHi
               replace hHi := Nat.le_trans hHi hb.size
               replace hS := hSb _ _ hq hb hS
               replace hC := hC.trans (hb.mono hs)
               replace hs := Nat.le_trans hs hb.size
               clear hb
               refine hK.out _ _ hS (fun hHeld => ?_)
               clear hK K
               try simp only [Act.put, y1, y2, y3, y4, y5, y6]
               refine wpAnyH_take (i := 9) (v := ?_) rfl (by kernel_rfl) (by kernel_rfl) (by kernel_rfl) (fun _ _ _ h => h) (Or.inl ⟨by rfl, ?_⟩) (by assumption) ?_
               rotate_left
               · (intro W9 hSw; clear hSw; go_simp; try (with_reducible rfl))
               try simp only [Act.put, y1, y2, y3, y4, y5, y6]
               refine wpAnyH_take (i := 10) (v := ?_) rfl (by kernel_rfl) (by kernel_rfl) (by kernel_rfl) (fun _ _ _ h => h) (Or.inl ⟨by rfl, ?_⟩) (by assumption) ?_
               rotate_left
               · (intro W9 hSw; clear hSw; go_simp; try (with_reducible rfl))
               try simp only [Act.put, y1, y2, y3, y4, y5, y6]
               refine wpAnyH_take (i := 11) (v := ?_) rfl (by kernel_rfl) (by kernel_rfl) (by kernel_rfl) (fun _ _ _ h => h) (Or.inl ⟨by rfl, ?_⟩) (by assumption) ?_
               rotate_left
               · (intro W9 hSw; clear hSw; go_simp; try (with_reducible rfl))
               try simp only [Act.put, y1, y2, y3, y4, y5, y6]
               clear hHeld
               have h := L1_00.out V1  hS hs hC
               rw [hops.out, hQ.out, ha.out] at h
               try simp only [Act.put, y1, y2, y3, y4, y5, y6] at h
               exact h
             · go_simp
               obtain ⟨V1, hN⟩ : ∃ V : World, V = World.alloc W (.cells #[.int .i64 0, .int .i64 0, .int .i64 0, .int .i64 0, .int .i64 0] 28) := ⟨_, rfl⟩
               rw [← hN]
               have hb : Below W.heap.size W V1 := by rw [hN]; exact (Below.refl _ _).alloc (Nat.le_refl _) _
               have bg0 : Box V1 W.heap.size [.int .i64 0, .int .i64 0, .int .i64 0, .int .i64 0, .int .i64 0] := by rw [hN]; exact box_new W #[.int .i64 0, .int .i64 0, .int .i64 0, .int .i64 0, .int .i64 0] 28
               have bz0 : Fz V1 W.heap.size := by rw [hN]; exact fz_at W #[.int .i64 0, .int .i64 0, .int .i64 0, .int .i64 0, .int .i64 0] 28 _ rfl
               have bl0 : W.heap.size < V1.heap.size := by rw [hN]; simp
               have bs0 : wr.heap.size ≤ W.heap.size := hs
               clear hN
               replace hrow := hrow.below hb hHi
               replace hHi := Nat.le_trans hHi hb.size
               replace hS := hSb _ _ hq hb hS
               replace hC := hC.trans (hb.mono hs)
               replace hs := Nat.le_trans hs hb.size
               clear hb
               refine hK.out _ _ hS (fun hHeld => ?_)
               clear hK K
               try simp only [Act.put, y1, y2, y3, y4, y5, y6]
               clear hHeld
               have h := L0_10.out V1 W.heap.size hrow hHi bg0 bz0 bl0 bs0 hS hs hC
               rw [hops.out, hQ.out, ha.out] at h
               try simp only [Act.put, y1, y2, y3, y4, y5, y6] at h
               exact h
             · go_simp
               obtain ⟨V1, hN⟩ : ∃ V : World, V = World.alloc W (.cells #[.int .i64 0, .int .i64 0, .int .i64 0, .int .i64 0, .int .i64 0] 28) := ⟨_, rfl⟩
               rw [← hN]
               have hb : Below W.heap.size W V1 := by rw [hN]; exact (Below.refl _ _).alloc (Nat.le_refl _) _
               have bg1 : Box V1 W.heap.size [.int .i64 0, .int .i64 0, .int .i64 0, .int .i64 0, .int .i64 0] := by rw [hN]; exact box_new W #[.int .i64 0, .int .i64 0, .int .i64 0, .int .i64 0, .int .i64 0] 28
               have bz1 : Fz V1 W.heap.size := by rw [hN]; exact fz_at W #[.int .i64 0, .int .i64 0, .int .i64 0, .int .i64 0, .int .i64 0] 28 _ rfl
               have bl1 : W.heap.size < V1.heap.size := by rw [hN]; simp
               have bs1 : wr.heap.size ≤ W.heap.size := hs
               clear hN
               replace hrow := hrow.below hb hHi
               replace hHi := Nat.le_trans hHi hb.size
               replace hS := hSb _ _ hq hb hS
               replace hC := hC.trans (hb.mono hs)
               replace hs := Nat.le_trans hs hb.size
               clear hb
               refine hK.out _ _ hS (fun hHeld => ?_)
               clear hK K
               try simp only [Act.put, y1, y2, y3, y4, y5, y6]
               clear hHeld
               have h := L0_01.out V1 W.heap.size hrow hHi bg1 bz1 bl1 bs1 hS hs hC
               rw [hops.out, hQ.out, ha.out] at h
               try simp only [Act.put, y1, y2, y3, y4, y5, y6] at h
               exact h
            have hC : Below wr.heap.size wr (World.drew wr) := (Below.refl _ _).drew
            exact L0_00.out _  (hr.below hC (show hi ≤ wr.heap.size by omega)) (Nat.le_trans (show hi ≤ wr.heap.size by omega) hC.size) hHeld hC.size hC
          case rest =>
            obtain ⟨gC, gD, rfl, rfl, bC, bD, hgC, hlC, hgD, hlD, hC⟩ := hcut
            rename World => w9
            have hs9 := hC.size
            replace hr := hr.below hC (by omega)
            replace bR := bR.below hC (by omega)
            replace bA := bA.below hC (by omega)
            replace bAf := bAf.below hC (by omega)
            replace bB := bB.below hC (by omega)
            replace bBf := bBf.below hC (by omega)
            replace bP := bP.below hC (by omega)
            replace bPf := bPf.below hC (by omega)
            replace bQ := bQ.below hC (by omega)
            replace bQf := bQf.below hC (by omega)
            replace hB := hB.trans (hC.mono (by omega))
            clear hC
            by_cases hbd : bd < 0
            · skip
              have nbA : w.heap.size + 1 < w9.heap.size := by omega
              have lbA_0 := bA 0 _ rfl
              have lbA_1 := bA 1 _ rfl
              have lbA_2 := bA 2 _ rfl
              have lbA_3 := bA 3 _ rfl
              have lbA_4 := bA 4 _ rfl
              have lfbA_0 := bAf 0
              have lfbA_1 := bAf 1
              have lfbA_2 := bAf 2
              have lfbA_3 := bAf 3
              have lfbA_4 := bAf 4
              have nbB : w.heap.size + 2 < w9.heap.size := by omega
              have lbB_0 := bB 0 _ rfl
              have lbB_1 := bB 1 _ rfl
              have lbB_2 := bB 2 _ rfl
              have lbB_3 := bB 3 _ rfl
              have lbB_4 := bB 4 _ rfl
              have lfbB_0 := bBf 0
              have lfbB_1 := bBf 1
              have lfbB_2 := bBf 2
              have lfbB_3 := bBf 3
              have lfbB_4 := bBf 4
              have nbC : gC < w9.heap.size := by omega
              have lbC_0 := bC 0 _ rfl
              have lbC_1 := bC 1 _ rfl
              have lbC_2 := bC 2 _ rfl
              have lbC_3 := bC 3 _ rfl
              have lbC_4 := bC 4 _ rfl
              have nbD : gD < w9.heap.size := by omega
              have lbD_0 := bD 0 _ rfl
              have lbD_1 := bD 1 _ rfl
              have lbD_2 := bD 2 _ rfl
              have lbD_3 := bD 3 _ rfl
              have lbD_4 := bD 4 _ rfl
              have qa := (ctlOk_true HPA.out).1
              have qb := (ctlOk_true HQA.out).1
              have qc := (ctlOk_true HOK.out.1).1
              have qd := (ctlOk_true HOK.out.2).1
              obtain ⟨bc, hbc⟩ : ∃ bc, badC T ((p0, p1, p2, p3, p4), (q0, q1, q2, q3, q4)) ((r0, r1, r2, r3, r4), (s0, s1, s2, s3, s4)) = bc := ⟨_, rfl⟩
              go_wp2_with fail
              refine (l18Bad_any A n c lo hi T E0.out p0 p1 p2 p3 p4 q0 q1 q2 q3 q4 r0 r1 r2 r3 r4 s0 s1 s2 s3 s4 qa qb qc qd _ hr (by omega)).mono ?_
              rintro e w2 ⟨rfl, hb⟩
              have hbb : Below w9.heap.size w9 w2 := Below.trans (by repeat (first | exact Below.refl _ _ | refine Below.drew ?_ | refine Below.alloc ?_ (by first | (simp; done) | (simp; omega)) _)) (Below.mono hb (by simp))
              clear hb
              have hs2 := hbb.size
              replace hr := hr.below hbb (by omega)
              replace bR := bR.below hbb (by omega)
              replace bA := bA.below hbb (by omega)
              replace bAf := bAf.below hbb (by omega)
              replace bB := bB.below hbb (by omega)
              replace bBf := bBf.below hbb (by omega)
              replace bP := bP.below hbb (by omega)
              replace bPf := bPf.below hbb (by omega)
              replace bQ := bQ.below hbb (by omega)
              replace bQf := bQf.below hbb (by omega)
              replace bC := bC.below hbb (by omega)
              replace bD := bD.below hbb (by omega)
              replace hB := hB.trans (hbb.mono (by omega))
              clear hbb
              rw [hbc]
              clear nbA lbA_0 lbA_1 lbA_2 lbA_3 lbA_4 lfbA_0 lfbA_1 lfbA_2 lfbA_3 lfbA_4 nbB lbB_0 lbB_1 lbB_2 lbB_3 lbB_4 lfbB_0 lfbB_1 lfbB_2 lfbB_3 lfbB_4 nbC lbC_0 lbC_1 lbC_2 lbC_3 lbC_4 nbD lbD_0 lbD_1 lbD_2 lbD_3 lbD_4
              have HBC := hide hbc
              clear hbc qa qb qc qd
              cases bc
              case false =>
                have n1 : gD ≠ w.heap.size + 1 := by omega
                have n2 : w.heap.size + 1 ≠ gD := by omega
                have n3 : gC ≠ w.heap.size + 1 := by omega
                have n4 : w.heap.size + 1 ≠ gC := by omega
                have nbA : w.heap.size + 1 < w2.heap.size := by omega
                have lbA_0 := bA 0 _ rfl
                have lbA_1 := bA 1 _ rfl
                have lbA_2 := bA 2 _ rfl
                have lbA_3 := bA 3 _ rfl
                have lbA_4 := bA 4 _ rfl
                have lfbA_0 := bAf 0
                have lfbA_1 := bAf 1
                have lfbA_2 := bAf 2
                have lfbA_3 := bAf 3
                have lfbA_4 := bAf 4
                have nbB : w.heap.size + 2 < w2.heap.size := by omega
                have lbB_0 := bB 0 _ rfl
                have lbB_1 := bB 1 _ rfl
                have lbB_2 := bB 2 _ rfl
                have lbB_3 := bB 3 _ rfl
                have lbB_4 := bB 4 _ rfl
                have lfbB_0 := bBf 0
                have lfbB_1 := bBf 1
                have lfbB_2 := bBf 2
                have lfbB_3 := bBf 3
                have lfbB_4 := bBf 4
                have nbC : gC < w2.heap.size := by omega
                have lbC_0 := bC 0 _ rfl
                have lbC_1 := bC 1 _ rfl
                have lbC_2 := bC 2 _ rfl
                have lbC_3 := bC 3 _ rfl
                have lbC_4 := bC 4 _ rfl
                have nbD : gD < w2.heap.size := by omega
                have lbD_0 := bD 0 _ rfl
                have lbD_1 := bD 1 _ rfl
                have lbD_2 := bD 2 _ rfl
                have lbD_3 := bD 3 _ rfl
                have lbD_4 := bD 4 _ rfl
                go_wp2_with fail
                go_roundw
                case rel =>
                  refine ⟨k + 1, ((r0, r1, r2, r3, r4), (s0, s1, s2, s3, s4)), bd, by omega, by go_num, rfl, hide ⟨HOK.out.1, HOK.out.2, rsS_no HST.out hlen HXK.out HRC.out (by rw [HBC.out]; simp)⟩, ?_, by simp [World.setCell]; omega, (Box.far (Box.far (Box.far (Box.far (Box.far (Box.far (Box.far (Box.far (Box.far (Box.far bR _ _ (by simp; try omega)) _ _ (by simp; try omega)) _ _ (by simp; try omega)) _ _ (by simp; try omega)) _ _ (by simp; try omega)) _ _ (by simp; try omega)) _ _ (by simp; try omega)) _ _ (by simp; try omega)) _ _ (by simp; try omega)) _ _ (by simp; try omega)), (Box.far (Box.far (Box.far (Box.far (Box.far (Box.put (Box.put (Box.put (Box.put (Box.put bA 0 _ (by simp)) 1 _ (by simp)) 2 _ (by simp)) 3 _ (by simp)) 4 _ (by simp)) _ _ (by simp; try omega)) _ _ (by simp; try omega)) _ _ (by simp; try omega)) _ _ (by simp; try omega)) _ _ (by simp; try omega)), ((((((((((bAf.set _ _).set _ _).set _ _).set _ _).set _ _).set _ _).set _ _).set _ _).set _ _).set _ _), (Box.put (Box.put (Box.put (Box.put (Box.put (Box.far (Box.far (Box.far (Box.far (Box.far bB _ _ (by simp; try omega)) _ _ (by simp; try omega)) _ _ (by simp; try omega)) _ _ (by simp; try omega)) _ _ (by simp; try omega)) 0 _ (by simp)) 1 _ (by simp)) 2 _ (by simp)) 3 _ (by simp)) 4 _ (by simp)), ((((((((((bBf.set _ _).set _ _).set _ _).set _ _).set _ _).set _ _).set _ _).set _ _).set _ _).set _ _), (Box.far (Box.far (Box.far (Box.far (Box.far (Box.far (Box.far (Box.far (Box.far (Box.far bP _ _ (by simp; try omega)) _ _ (by simp; try omega)) _ _ (by simp; try omega)) _ _ (by simp; try omega)) _ _ (by simp; try omega)) _ _ (by simp; try omega)) _ _ (by simp; try omega)) _ _ (by simp; try omega)) _ _ (by simp; try omega)) _ _ (by simp; try omega)), ((((((((((bPf.set _ _).set _ _).set _ _).set _ _).set _ _).set _ _).set _ _).set _ _).set _ _).set _ _), (Box.far (Box.far (Box.far (Box.far (Box.far (Box.far (Box.far (Box.far (Box.far (Box.far bQ _ _ (by simp; try omega)) _ _ (by simp; try omega)) _ _ (by simp; try omega)) _ _ (by simp; try omega)) _ _ (by simp; try omega)) _ _ (by simp; try omega)) _ _ (by simp; try omega)) _ _ (by simp; try omega)) _ _ (by simp; try omega)) _ _ (by simp; try omega)), ((((((((((bQf.set _ _).set _ _).set _ _).set _ _).set _ _).set _ _).set _ _).set _ _).set _ _).set _ _)⟩
                  repeat (with_reducible refine Below.setCell ?_ (by simp; try omega) _)
                  exact hB
                case measure => simp [intOf]; omega
              case true =>
                have n1 : gD ≠ w.heap.size + 1 := by omega
                have n2 : w.heap.size + 1 ≠ gD := by omega
                have n3 : gC ≠ w.heap.size + 1 := by omega
                have n4 : w.heap.size + 1 ≠ gC := by omega
                have nbA : w.heap.size + 1 < w2.heap.size := by omega
                have lbA_0 := bA 0 _ rfl
                have lbA_1 := bA 1 _ rfl
                have lbA_2 := bA 2 _ rfl
                have lbA_3 := bA 3 _ rfl
                have lbA_4 := bA 4 _ rfl
                have lfbA_0 := bAf 0
                have lfbA_1 := bAf 1
                have lfbA_2 := bAf 2
                have lfbA_3 := bAf 3
                have lfbA_4 := bAf 4
                have nbB : w.heap.size + 2 < w2.heap.size := by omega
                have lbB_0 := bB 0 _ rfl
                have lbB_1 := bB 1 _ rfl
                have lbB_2 := bB 2 _ rfl
                have lbB_3 := bB 3 _ rfl
                have lbB_4 := bB 4 _ rfl
                have lfbB_0 := bBf 0
                have lfbB_1 := bBf 1
                have lfbB_2 := bBf 2
                have lfbB_3 := bBf 3
                have lfbB_4 := bBf 4
                have nbC : gC < w2.heap.size := by omega
                have lbC_0 := bC 0 _ rfl
                have lbC_1 := bC 1 _ rfl
                have lbC_2 := bC 2 _ rfl
                have lbC_3 := bC 3 _ rfl
                have lbC_4 := bC 4 _ rfl
                have nbD : gD < w2.heap.size := by omega
                have lbD_0 := bD 0 _ rfl
                have lbD_1 := bD 1 _ rfl
                have lbD_2 := bD 2 _ rfl
                have lbD_3 := bD 3 _ rfl
                have lbD_4 := bD 4 _ rfl
                go_wp2_with fail
                go_roundw
                case rel =>
                  refine ⟨k + 1, ((r0, r1, r2, r3, r4), (s0, s1, s2, s3, s4)), (k : Int), by omega, by go_num, rfl, hide ⟨HOK.out.1, HOK.out.2, rsS_yes HST.out hlen HXK.out HRC.out hbd HBC.out⟩, ?_, by simp [World.setCell]; omega, (Box.far (Box.far (Box.far (Box.far (Box.far (Box.far (Box.far (Box.far (Box.far (Box.far bR _ _ (by simp; try omega)) _ _ (by simp; try omega)) _ _ (by simp; try omega)) _ _ (by simp; try omega)) _ _ (by simp; try omega)) _ _ (by simp; try omega)) _ _ (by simp; try omega)) _ _ (by simp; try omega)) _ _ (by simp; try omega)) _ _ (by simp; try omega)), (Box.far (Box.far (Box.far (Box.far (Box.far (Box.put (Box.put (Box.put (Box.put (Box.put bA 0 _ (by simp)) 1 _ (by simp)) 2 _ (by simp)) 3 _ (by simp)) 4 _ (by simp)) _ _ (by simp; try omega)) _ _ (by simp; try omega)) _ _ (by simp; try omega)) _ _ (by simp; try omega)) _ _ (by simp; try omega)), ((((((((((bAf.set _ _).set _ _).set _ _).set _ _).set _ _).set _ _).set _ _).set _ _).set _ _).set _ _), (Box.put (Box.put (Box.put (Box.put (Box.put (Box.far (Box.far (Box.far (Box.far (Box.far bB _ _ (by simp; try omega)) _ _ (by simp; try omega)) _ _ (by simp; try omega)) _ _ (by simp; try omega)) _ _ (by simp; try omega)) 0 _ (by simp)) 1 _ (by simp)) 2 _ (by simp)) 3 _ (by simp)) 4 _ (by simp)), ((((((((((bBf.set _ _).set _ _).set _ _).set _ _).set _ _).set _ _).set _ _).set _ _).set _ _).set _ _), (Box.far (Box.far (Box.far (Box.far (Box.far (Box.far (Box.far (Box.far (Box.far (Box.far bP _ _ (by simp; try omega)) _ _ (by simp; try omega)) _ _ (by simp; try omega)) _ _ (by simp; try omega)) _ _ (by simp; try omega)) _ _ (by simp; try omega)) _ _ (by simp; try omega)) _ _ (by simp; try omega)) _ _ (by simp; try omega)) _ _ (by simp; try omega)), ((((((((((bPf.set _ _).set _ _).set _ _).set _ _).set _ _).set _ _).set _ _).set _ _).set _ _).set _ _), (Box.far (Box.far (Box.far (Box.far (Box.far (Box.far (Box.far (Box.far (Box.far (Box.far bQ _ _ (by simp; try omega)) _ _ (by simp; try omega)) _ _ (by simp; try omega)) _ _ (by simp; try omega)) _ _ (by simp; try omega)) _ _ (by simp; try omega)) _ _ (by simp; try omega)) _ _ (by simp; try omega)) _ _ (by simp; try omega)) _ _ (by simp; try omega)), ((((((((((bQf.set _ _).set _ _).set _ _).set _ _).set _ _).set _ _).set _ _).set _ _).set _ _).set _ _)⟩
                  repeat (with_reducible refine Below.setCell ?_ (by simp; try omega) _)
                  exact hB
                case measure => simp [intOf]; omega
            · skip
              have n1 : gD ≠ w.heap.size + 1 := by omega
              have n2 : w.heap.size + 1 ≠ gD := by omega
              have n3 : gC ≠ w.heap.size + 1 := by omega
              have n4 : w.heap.size + 1 ≠ gC := by omega
              have nbA : w.heap.size + 1 < w9.heap.size := by omega
              have lbA_0 := bA 0 _ rfl
              have lbA_1 := bA 1 _ rfl
              have lbA_2 := bA 2 _ rfl
              have lbA_3 := bA 3 _ rfl
              have lbA_4 := bA 4 _ rfl
              have lfbA_0 := bAf 0
              have lfbA_1 := bAf 1
              have lfbA_2 := bAf 2
              have lfbA_3 := bAf 3
              have lfbA_4 := bAf 4
              have nbB : w.heap.size + 2 < w9.heap.size := by omega
              have lbB_0 := bB 0 _ rfl
              have lbB_1 := bB 1 _ rfl
              have lbB_2 := bB 2 _ rfl
              have lbB_3 := bB 3 _ rfl
              have lbB_4 := bB 4 _ rfl
              have lfbB_0 := bBf 0
              have lfbB_1 := bBf 1
              have lfbB_2 := bBf 2
              have lfbB_3 := bBf 3
              have lfbB_4 := bBf 4
              have nbC : gC < w9.heap.size := by omega
              have lbC_0 := bC 0 _ rfl
              have lbC_1 := bC 1 _ rfl
              have lbC_2 := bC 2 _ rfl
              have lbC_3 := bC 3 _ rfl
              have lbC_4 := bC 4 _ rfl
              have nbD : gD < w9.heap.size := by omega
              have lbD_0 := bD 0 _ rfl
              have lbD_1 := bD 1 _ rfl
              have lbD_2 := bD 2 _ rfl
              have lbD_3 := bD 3 _ rfl
              have lbD_4 := bD 4 _ rfl
              go_wp2_with fail
              go_roundw
              case rel =>
                refine ⟨k + 1, ((r0, r1, r2, r3, r4), (s0, s1, s2, s3, s4)), bd, by omega, by go_num, rfl, hide ⟨HOK.out.1, HOK.out.2, rsS_no HST.out hlen HXK.out HRC.out (fun h => absurd h.1 (by omega))⟩, ?_, by simp [World.setCell]; omega, (Box.far (Box.far (Box.far (Box.far (Box.far (Box.far (Box.far (Box.far (Box.far (Box.far bR _ _ (by simp; try omega)) _ _ (by simp; try omega)) _ _ (by simp; try omega)) _ _ (by simp; try omega)) _ _ (by simp; try omega)) _ _ (by simp; try omega)) _ _ (by simp; try omega)) _ _ (by simp; try omega)) _ _ (by simp; try omega)) _ _ (by simp; try omega)), (Box.far (Box.far (Box.far (Box.far (Box.far (Box.put (Box.put (Box.put (Box.put (Box.put bA 0 _ (by simp)) 1 _ (by simp)) 2 _ (by simp)) 3 _ (by simp)) 4 _ (by simp)) _ _ (by simp; try omega)) _ _ (by simp; try omega)) _ _ (by simp; try omega)) _ _ (by simp; try omega)) _ _ (by simp; try omega)), ((((((((((bAf.set _ _).set _ _).set _ _).set _ _).set _ _).set _ _).set _ _).set _ _).set _ _).set _ _), (Box.put (Box.put (Box.put (Box.put (Box.put (Box.far (Box.far (Box.far (Box.far (Box.far bB _ _ (by simp; try omega)) _ _ (by simp; try omega)) _ _ (by simp; try omega)) _ _ (by simp; try omega)) _ _ (by simp; try omega)) 0 _ (by simp)) 1 _ (by simp)) 2 _ (by simp)) 3 _ (by simp)) 4 _ (by simp)), ((((((((((bBf.set _ _).set _ _).set _ _).set _ _).set _ _).set _ _).set _ _).set _ _).set _ _).set _ _), (Box.far (Box.far (Box.far (Box.far (Box.far (Box.far (Box.far (Box.far (Box.far (Box.far bP _ _ (by simp; try omega)) _ _ (by simp; try omega)) _ _ (by simp; try omega)) _ _ (by simp; try omega)) _ _ (by simp; try omega)) _ _ (by simp; try omega)) _ _ (by simp; try omega)) _ _ (by simp; try omega)) _ _ (by simp; try omega)) _ _ (by simp; try omega)), ((((((((((bPf.set _ _).set _ _).set _ _).set _ _).set _ _).set _ _).set _ _).set _ _).set _ _).set _ _), (Box.far (Box.far (Box.far (Box.far (Box.far (Box.far (Box.far (Box.far (Box.far (Box.far bQ _ _ (by simp; try omega)) _ _ (by simp; try omega)) _ _ (by simp; try omega)) _ _ (by simp; try omega)) _ _ (by simp; try omega)) _ _ (by simp; try omega)) _ _ (by simp; try omega)) _ _ (by simp; try omega)) _ _ (by simp; try omega)) _ _ (by simp; try omega)), ((((((((((bQf.set _ _).set _ _).set _ _).set _ _).set _ _).set _ _).set _ _).set _ _).set _ _).set _ _)⟩
                repeat (with_reducible refine Below.setCell ?_ (by simp; try omega) _)
                exact hB
              case measure => simp [intOf]; omega
        · obtain rfl : k = m := by omega
          have HV := hide (rsV_ok HC.out HL.out (by omega) HST.out)
          clear E0 E1 EA EB HR0 HX0
          have nbA : w.heap.size + 1 < wr.heap.size := by omega
          have lbA_0 := bA 0 _ rfl
          have lbA_1 := bA 1 _ rfl
          have lbA_2 := bA 2 _ rfl
          have lbA_3 := bA 3 _ rfl
          have lbA_4 := bA 4 _ rfl
          have lfbA_0 := bAf 0
          have lfbA_1 := bAf 1
          have lfbA_2 := bAf 2
          have lfbA_3 := bAf 3
          have lfbA_4 := bAf 4
          have nbB : w.heap.size + 2 < wr.heap.size := by omega
          have lbB_0 := bB 0 _ rfl
          have lbB_1 := bB 1 _ rfl
          have lbB_2 := bB 2 _ rfl
          have lbB_3 := bB 3 _ rfl
          have lbB_4 := bB 4 _ rfl
          have lfbB_0 := bBf 0
          have lfbB_1 := bBf 1
          have lfbB_2 := bBf 2
          have lfbB_3 := bBf 3
          have lfbB_4 := bBf 4
          have nbP : w.heap.size + 3 < wr.heap.size := by omega
          have lbP_0 := bP 0 _ rfl
          have lbP_1 := bP 1 _ rfl
          have lbP_2 := bP 2 _ rfl
          have lbP_3 := bP 3 _ rfl
          have lbP_4 := bP 4 _ rfl
          have lfbP_0 := bPf 0
          have lfbP_1 := bPf 1
          have lfbP_2 := bPf 2
          have lfbP_3 := bPf 3
          have lfbP_4 := bPf 4
          have nbQ : w.heap.size + 4 < wr.heap.size := by omega
          have lbQ_0 := bQ 0 _ rfl
          have lbQ_1 := bQ 1 _ rfl
          have lbQ_2 := bQ 2 _ rfl
          have lbQ_3 := bQ 3 _ rfl
          have lbQ_4 := bQ 4 _ rfl
          have lfbQ_0 := bQf 0
          have lfbQ_1 := bQf 1
          have lfbQ_2 := bQf 2
          have lfbQ_3 := bQf 3
          have lfbQ_4 := bQf 4
          go_wp2_with fail
          have HS : Hid (wr.cell? ⟨w.heap.size + 1, 0, none⟩ = some (.int .i64 p0) ∧ wr.cell? ⟨w.heap.size + 1, 1, none⟩ = some (.int .i64 p1) ∧ wr.cell? ⟨w.heap.size + 1, 2, none⟩ = some (.int .i64 p2) ∧ wr.cell? ⟨w.heap.size + 1, 3, none⟩ = some (.int .i64 p3) ∧ wr.cell? ⟨w.heap.size + 1, 4, none⟩ = some (.int .i64 p4) ∧ wr.cell? ⟨w.heap.size + 2, 0, none⟩ = some (.int .i64 q0) ∧ wr.cell? ⟨w.heap.size + 2, 1, none⟩ = some (.int .i64 q1) ∧ wr.cell? ⟨w.heap.size + 2, 2, none⟩ = some (.int .i64 q2) ∧ wr.cell? ⟨w.heap.size + 2, 3, none⟩ = some (.int .i64 q3) ∧ wr.cell? ⟨w.heap.size + 2, 4, none⟩ = some (.int .i64 q4)) := hide ⟨bA 0 _ rfl, bA 1 _ rfl, bA 2 _ rfl, bA 3 _ rfl, bA 4 _ rfl, bB 0 _ rfl, bB 1 _ rfl, bB 2 _ rfl, bB 3 _ rfl, bB 4 _ rfl⟩
          have HD : Hid ((World.drew wr).cell? ⟨w.heap.size + 1, 0, none⟩ = some (.int .i64 p0) ∧ (World.drew wr).cell? ⟨w.heap.size + 1, 1, none⟩ = some (.int .i64 p1) ∧ (World.drew wr).cell? ⟨w.heap.size + 1, 2, none⟩ = some (.int .i64 p2) ∧ (World.drew wr).cell? ⟨w.heap.size + 1, 3, none⟩ = some (.int .i64 p3) ∧ (World.drew wr).cell? ⟨w.heap.size + 1, 4, none⟩ = some (.int .i64 p4) ∧ (World.drew wr).cell? ⟨w.heap.size + 2, 0, none⟩ = some (.int .i64 q0) ∧ (World.drew wr).cell? ⟨w.heap.size + 2, 1, none⟩ = some (.int .i64 q1) ∧ (World.drew wr).cell? ⟨w.heap.size + 2, 2, none⟩ = some (.int .i64 q2) ∧ (World.drew wr).cell? ⟨w.heap.size + 2, 3, none⟩ = some (.int .i64 q3) ∧ (World.drew wr).cell? ⟨w.heap.size + 2, 4, none⟩ = some (.int .i64 q4)) := HS
          go_region_held3 (fun W => W.cell? ⟨w.heap.size + 1, 0, none⟩ = some (.int .i64 p0) ∧ W.cell? ⟨w.heap.size + 1, 1, none⟩ = some (.int .i64 p1) ∧ W.cell? ⟨w.heap.size + 1, 2, none⟩ = some (.int .i64 p2) ∧ W.cell? ⟨w.heap.size + 1, 3, none⟩ = some (.int .i64 p3) ∧ W.cell? ⟨w.heap.size + 1, 4, none⟩ = some (.int .i64 p4) ∧ W.cell? ⟨w.heap.size + 2, 0, none⟩ = some (.int .i64 q0) ∧ W.cell? ⟨w.heap.size + 2, 1, none⟩ = some (.int .i64 q1) ∧ W.cell? ⟨w.heap.size + 2, 2, none⟩ = some (.int .i64 q2) ∧ W.cell? ⟨w.heap.size + 2, 3, none⟩ = some (.int .i64 q3) ∧ W.cell? ⟨w.heap.size + 2, 4, none⟩ = some (.int .i64 q4)) (first | (with_reducible exact HS.out) | (with_reducible exact HD.out) | ((with_reducible refine ⟨?_, ?_, ?_, ?_, ?_, ?_, ?_, ?_, ?_, ?_⟩) <;> ((repeat (first | (with_reducible refine (far5 (by omega)).trans ?_) | (with_reducible refine (far5n (by omega)).trans ?_))); first | (with_reducible exact HS.out.1) | (with_reducible exact HS.out.2.1) | (with_reducible exact HS.out.2.2.1) | (with_reducible exact HS.out.2.2.2.1) | (with_reducible exact HS.out.2.2.2.2.1) | (with_reducible exact HS.out.2.2.2.2.2.1) | (with_reducible exact HS.out.2.2.2.2.2.2.1) | (with_reducible exact HS.out.2.2.2.2.2.2.2.1) | (with_reducible exact HS.out.2.2.2.2.2.2.2.2.1) | (with_reducible exact HS.out.2.2.2.2.2.2.2.2.2)))) (fail)
          all_goals
            go_wp2_with fail
            refine bodyPost_ret (v := .tuple #[.agg #[.int .i64 p0, .int .i64 p1, .int .i64 p2, .int .i64 p3, .int .i64 p4], .agg #[.int .i64 q0, .int .i64 q1, .int .i64 q2, .int .i64 q3, .int .i64 q4], .int .i64 bd, .int .i64 0]) (by simp [results, Tryz.results7, go_sem, lbP_0, lbP_1, lbP_2, lbP_3, lbP_4, lbQ_0, lbQ_1, lbQ_2, lbQ_3, lbQ_4]) rfl ⟨by rw [HV.out], ?_⟩
            repeat (first | with_reducible refine Below.drew ?_ | with_reducible refine Below.setCell ?_ (by simp; try omega) _)
            exact hB
  · skip
    have HV := hide (rsV_bad (L := L) HC.out hz)
    have hz2 : (cc == 0) = false := by simpa using hz
    have hz3 : (cc != 0) = true := by simpa using hz
    go_enter Tryz.func7, Tryz.ntmps7
    go_wp2_with fail
    obtain ⟨W0, hW0⟩ : ∃ W0 : World, W0 = ((((((w.alloc (.cells #[.int .i64 mg, .int .i64 st] 26)).alloc (.cells #[.int .i64 a.1, .int .i64 a.2.1, .int .i64 a.2.2.1, .int .i64 a.2.2.2.1, .int .i64 a.2.2.2.2] 28)).alloc (.cells #[.int .i64 b.1, .int .i64 b.2.1, .int .i64 b.2.2.1, .int .i64 b.2.2.2.1, .int .i64 b.2.2.2.2] 28)).alloc (.cells #[.int .i64 0, .int .i64 0, .int .i64 0, .int .i64 0, .int .i64 0] 28)).alloc (.cells #[.int .i64 0, .int .i64 0, .int .i64 0, .int .i64 0, .int .i64 0] 28)).alloc (.cells #[.int .i64 a.1, .int .i64 a.2.1, .int .i64 a.2.2.1, .int .i64 a.2.2.2.1, .int .i64 a.2.2.2.2, .int .i64 b.1, .int .i64 b.2.1, .int .i64 b.2.2.1, .int .i64 b.2.2.2.1, .int .i64 b.2.2.2.2] 28)) := ⟨_, rfl⟩
    rw [← hW0]
    have bR : Box W0 (w.heap.size) [.int .i64 mg, .int .i64 st] := by rw [hW0]; exact (((((box_at _ _ _ _ (by simp)).alloc (by simp) _).alloc (by simp; try omega) _).alloc (by simp; try omega) _).alloc (by simp; try omega) _).alloc (by simp; try omega) _
    have bA : Box W0 (w.heap.size + 1) [.int .i64 a.1, .int .i64 a.2.1, .int .i64 a.2.2.1, .int .i64 a.2.2.2.1, .int .i64 a.2.2.2.2] := by rw [hW0]; exact ((((box_at _ _ _ _ (by simp)).alloc (by simp) _).alloc (by simp; try omega) _).alloc (by simp; try omega) _).alloc (by simp; try omega) _
    have bAf : Fz W0 (w.heap.size + 1) := by rw [hW0]; exact ((((fz_at _ _ _ _ (by simp)).alloc (by simp) _).alloc (by simp; try omega) _).alloc (by simp; try omega) _).alloc (by simp; try omega) _
    have bB : Box W0 (w.heap.size + 2) [.int .i64 b.1, .int .i64 b.2.1, .int .i64 b.2.2.1, .int .i64 b.2.2.2.1, .int .i64 b.2.2.2.2] := by rw [hW0]; exact (((box_at _ _ _ _ (by simp)).alloc (by simp) _).alloc (by simp; try omega) _).alloc (by simp; try omega) _
    have bBf : Fz W0 (w.heap.size + 2) := by rw [hW0]; exact (((fz_at _ _ _ _ (by simp)).alloc (by simp) _).alloc (by simp; try omega) _).alloc (by simp; try omega) _
    have bP : Box W0 (w.heap.size + 3) [.int .i64 0, .int .i64 0, .int .i64 0, .int .i64 0, .int .i64 0] := by rw [hW0]; exact ((box_at _ _ _ _ (by simp)).alloc (by simp) _).alloc (by simp; try omega) _
    have bPf : Fz W0 (w.heap.size + 3) := by rw [hW0]; exact ((fz_at _ _ _ _ (by simp)).alloc (by simp) _).alloc (by simp; try omega) _
    have bQ : Box W0 (w.heap.size + 4) [.int .i64 0, .int .i64 0, .int .i64 0, .int .i64 0, .int .i64 0] := by rw [hW0]; exact (box_at _ _ _ _ (by simp)).alloc (by simp) _
    have bQf : Fz W0 (w.heap.size + 4) := by rw [hW0]; exact (fz_at _ _ _ _ (by simp)).alloc (by simp) _
    have bL : Box W0 (w.heap.size + 5) [.int .i64 a.1, .int .i64 a.2.1, .int .i64 a.2.2.1, .int .i64 a.2.2.2.1, .int .i64 a.2.2.2.2, .int .i64 b.1, .int .i64 b.2.1, .int .i64 b.2.2.1, .int .i64 b.2.2.2.1, .int .i64 b.2.2.2.2] := by rw [hW0]; exact box_at _ _ _ _ (by simp)
    have hL : Rd W0 (w.heap.size + 5) (w.heap.size + 5 + 1) 5 (some ⟨w.heap.size + 5, 0, none⟩) 2 (rCtl [a, b]) := by rw [hW0]; exact rd_new _ _ _ 2 5 rfl _ rfl _ (by simp)
    have hB : Below w.heap.size w W0 := by rw [hW0]; exact (by repeat (first | exact Below.refl _ _ | refine Below.drew ?_ | refine Below.alloc ?_ (by first | (simp; done) | (simp; omega)) _))
    have hs0 : w.heap.size + 6 ≤ W0.heap.size := by rw [hW0]; first | (simp; done) | (simp; omega)
    clear hW0
    replace hr := hr.below hB (by omega)
    refine (l18Code_any A n c lo hi T hm mg st _ 2 2 (w.heap.size + 5) (w.heap.size + 5 + 1) [a, b] rfl (by omega) _ hr (by omega) hL (by omega)).mono ?_
    rintro e w1 ⟨rfl, hb⟩
    have hbb : Below W0.heap.size W0 w1 := Below.trans (by repeat (first | exact Below.refl _ _ | refine Below.drew ?_ | refine Below.alloc ?_ (by first | (simp; done) | (simp; omega)) _)) (Below.mono hb (by simp))
    clear hb
    have hs1 := hbb.size
    replace hr := hr.below hbb (by omega)
    replace hL := hL.below hbb (by omega)
    replace bR := bR.below hbb (by omega)
    replace bA := bA.below hbb (by omega)
    replace bAf := bAf.below hbb (by omega)
    replace bB := bB.below hbb (by omega)
    replace bBf := bBf.below hbb (by omega)
    replace bP := bP.below hbb (by omega)
    replace bPf := bPf.below hbb (by omega)
    replace bQ := bQ.below hbb (by omega)
    replace bQf := bQf.below hbb (by omega)
    replace bL := bL.below hbb (by omega)
    replace hB := hB.trans (hbb.mono (by omega))
    clear hbb
    rw [HC.out]
    clear hL
    clear bL
    have nbP : w.heap.size + 3 < w1.heap.size := by omega
    have lbP_0 := bP 0 _ rfl
    have lbP_1 := bP 1 _ rfl
    have lbP_2 := bP 2 _ rfl
    have lbP_3 := bP 3 _ rfl
    have lbP_4 := bP 4 _ rfl
    have lfbP_0 := bPf 0
    have lfbP_1 := bPf 1
    have lfbP_2 := bPf 2
    have lfbP_3 := bPf 3
    have lfbP_4 := bPf 4
    have nbQ : w.heap.size + 4 < w1.heap.size := by omega
    have lbQ_0 := bQ 0 _ rfl
    have lbQ_1 := bQ 1 _ rfl
    have lbQ_2 := bQ 2 _ rfl
    have lbQ_3 := bQ 3 _ rfl
    have lbQ_4 := bQ 4 _ rfl
    have lfbQ_0 := bQf 0
    have lfbQ_1 := bQf 1
    have lfbQ_2 := bQf 2
    have lfbQ_3 := bQf 3
    have lfbQ_4 := bQf 4
    go_wp2_with fail
    refine bodyPost_ret (v := .tuple #[.agg #[.int .i64 0, .int .i64 0, .int .i64 0, .int .i64 0, .int .i64 0], .agg #[.int .i64 0, .int .i64 0, .int .i64 0, .int .i64 0, .int .i64 0], .int .i64 0, .int .i64 cc]) (by simp [results, Tryz.results7, go_sem, lbP_0, lbP_1, lbP_2, lbP_3, lbP_4, lbQ_0, lbQ_1, lbQ_2, lbQ_3, lbQ_4]) rfl ⟨by rw [HV.out], ?_⟩
    repeat (first | with_reducible refine Below.drew ?_ | with_reducible refine Below.setCell ?_ (by simp; try omega) _)
    exact hB

set_option maxRecDepth 100000 in
set_option maxHeartbeats 8000000 in
theorem implRunRounds_any (A : Option Addr) (n c lo hi : Nat) (T : List (List Bool)) (hm : n ≤ maxLen) (mg st : Int) (a b : Ctl) (B' : Option Addr) (m cm lo' hi' : Nat) (L : List (Bool × Bool)) (hL : L.length = m) (hmm : m ≤ 1048576) (w : World) (hr : RdSS w lo hi A n (rrBool T)) (hhi : hi ≤ w.heap.size) (hx : Rd w lo' hi' 2 B' m (rRound L)) (hhx : hi' ≤ w.heap.size) :
    Calls Tryz.prog 6 #[.slice A n c, .agg #[.int .i64 mg, .int .i64 st], .agg #[.int .i64 a.1, .int .i64 a.2.1, .int .i64 a.2.2.1, .int .i64 a.2.2.2.1, .int .i64 a.2.2.2.2], .agg #[.int .i64 b.1, .int .i64 b.2.1, .int .i64 b.2.2.1, .int .i64 b.2.2.2.1, .int .i64 b.2.2.2.2], .slice B' m cm] w fun e w' => e = .returned (.tuple #[.agg #[.int .i64 (rsV T mg st a b L).1.1.1, .int .i64 (rsV T mg st a b L).1.1.2.1, .int .i64 (rsV T mg st a b L).1.1.2.2.1, .int .i64 (rsV T mg st a b L).1.1.2.2.2.1, .int .i64 (rsV T mg st a b L).1.1.2.2.2.2], .agg #[.int .i64 (rsV T mg st a b L).1.2.1, .int .i64 (rsV T mg st a b L).1.2.2.1, .int .i64 (rsV T mg st a b L).1.2.2.2.1, .int .i64 (rsV T mg st a b L).1.2.2.2.2.1, .int .i64 (rsV T mg st a b L).1.2.2.2.2.2], .int .i64 (rsV T mg st a b L).2.1, .int .i64 (rsV T mg st a b L).2.2]) ∧ Below w.heap.size w w' := by
  obtain ⟨cc, hcc⟩ : ∃ cc, codeC T mg st [a, b] = cc := ⟨_, rfl⟩
  have HC := hide hcc
  have HL := hide hL
  have HR0 := hide hr
  have HX0 := hide hx
  clear hcc hL hx
  by_cases hz : cc = 0
  · by_cases hfull : 200 < m
    · skip
      subst hz
      have HV := hide (rsV_full (L := L) HC.out (by rw [HL.out]; exact hfull))
      go_enter Tryz.func6, Tryz.ntmps6
      go_wp2_with fail
      obtain ⟨W0, hW0⟩ : ∃ W0 : World, W0 = ((((((w.alloc (.cells #[.int .i64 mg, .int .i64 st] 26)).alloc (.cells #[.int .i64 a.1, .int .i64 a.2.1, .int .i64 a.2.2.1, .int .i64 a.2.2.2.1, .int .i64 a.2.2.2.2] 28)).alloc (.cells #[.int .i64 b.1, .int .i64 b.2.1, .int .i64 b.2.2.1, .int .i64 b.2.2.2.1, .int .i64 b.2.2.2.2] 28)).alloc (.cells #[.int .i64 0, .int .i64 0, .int .i64 0, .int .i64 0, .int .i64 0] 28)).alloc (.cells #[.int .i64 0, .int .i64 0, .int .i64 0, .int .i64 0, .int .i64 0] 28)).alloc (.cells #[.int .i64 a.1, .int .i64 a.2.1, .int .i64 a.2.2.1, .int .i64 a.2.2.2.1, .int .i64 a.2.2.2.2, .int .i64 b.1, .int .i64 b.2.1, .int .i64 b.2.2.1, .int .i64 b.2.2.2.1, .int .i64 b.2.2.2.2] 28)) := ⟨_, rfl⟩
      rw [← hW0]
      have bR : Box W0 (w.heap.size) [.int .i64 mg, .int .i64 st] := by rw [hW0]; exact (((((box_at _ _ _ _ (by simp)).alloc (by simp) _).alloc (by simp; try omega) _).alloc (by simp; try omega) _).alloc (by simp; try omega) _).alloc (by simp; try omega) _
      have bA : Box W0 (w.heap.size + 1) [.int .i64 a.1, .int .i64 a.2.1, .int .i64 a.2.2.1, .int .i64 a.2.2.2.1, .int .i64 a.2.2.2.2] := by rw [hW0]; exact ((((box_at _ _ _ _ (by simp)).alloc (by simp) _).alloc (by simp; try omega) _).alloc (by simp; try omega) _).alloc (by simp; try omega) _
      have bAf : Fz W0 (w.heap.size + 1) := by rw [hW0]; exact ((((fz_at _ _ _ _ (by simp)).alloc (by simp) _).alloc (by simp; try omega) _).alloc (by simp; try omega) _).alloc (by simp; try omega) _
      have bB : Box W0 (w.heap.size + 2) [.int .i64 b.1, .int .i64 b.2.1, .int .i64 b.2.2.1, .int .i64 b.2.2.2.1, .int .i64 b.2.2.2.2] := by rw [hW0]; exact (((box_at _ _ _ _ (by simp)).alloc (by simp) _).alloc (by simp; try omega) _).alloc (by simp; try omega) _
      have bBf : Fz W0 (w.heap.size + 2) := by rw [hW0]; exact (((fz_at _ _ _ _ (by simp)).alloc (by simp) _).alloc (by simp; try omega) _).alloc (by simp; try omega) _
      have bP : Box W0 (w.heap.size + 3) [.int .i64 0, .int .i64 0, .int .i64 0, .int .i64 0, .int .i64 0] := by rw [hW0]; exact ((box_at _ _ _ _ (by simp)).alloc (by simp) _).alloc (by simp; try omega) _
      have bPf : Fz W0 (w.heap.size + 3) := by rw [hW0]; exact ((fz_at _ _ _ _ (by simp)).alloc (by simp) _).alloc (by simp; try omega) _
      have bQ : Box W0 (w.heap.size + 4) [.int .i64 0, .int .i64 0, .int .i64 0, .int .i64 0, .int .i64 0] := by rw [hW0]; exact (box_at _ _ _ _ (by simp)).alloc (by simp) _
      have bQf : Fz W0 (w.heap.size + 4) := by rw [hW0]; exact (fz_at _ _ _ _ (by simp)).alloc (by simp) _
      have bL : Box W0 (w.heap.size + 5) [.int .i64 a.1, .int .i64 a.2.1, .int .i64 a.2.2.1, .int .i64 a.2.2.2.1, .int .i64 a.2.2.2.2, .int .i64 b.1, .int .i64 b.2.1, .int .i64 b.2.2.1, .int .i64 b.2.2.2.1, .int .i64 b.2.2.2.2] := by rw [hW0]; exact box_at _ _ _ _ (by simp)
      have hL : Rd W0 (w.heap.size + 5) (w.heap.size + 5 + 1) 5 (some ⟨w.heap.size + 5, 0, none⟩) 2 (rCtl [a, b]) := by rw [hW0]; exact rd_new _ _ _ 2 5 rfl _ rfl _ (by simp)
      have hB : Below w.heap.size w W0 := by rw [hW0]; exact (by repeat (first | exact Below.refl _ _ | refine Below.drew ?_ | refine Below.alloc ?_ (by first | (simp; done) | (simp; omega)) _))
      have hs0 : w.heap.size + 6 ≤ W0.heap.size := by rw [hW0]; first | (simp; done) | (simp; omega)
      clear hW0
      replace hr := hr.below hB (by omega)
      refine (controlCode_any A n c lo hi T hm mg st _ 2 2 (w.heap.size + 5) (w.heap.size + 5 + 1) [a, b] rfl (by omega) _ hr (by omega) hL (by omega)).mono ?_
      rintro e w1 ⟨rfl, hb⟩
      have hbb : Below W0.heap.size W0 w1 := Below.trans (by repeat (first | exact Below.refl _ _ | refine Below.drew ?_ | refine Below.alloc ?_ (by first | (simp; done) | (simp; omega)) _)) (Below.mono hb (by simp))
      clear hb
      have hs1 := hbb.size
      replace hr := hr.below hbb (by omega)
      replace hL := hL.below hbb (by omega)
      replace bR := bR.below hbb (by omega)
      replace bA := bA.below hbb (by omega)
      replace bAf := bAf.below hbb (by omega)
      replace bB := bB.below hbb (by omega)
      replace bBf := bBf.below hbb (by omega)
      replace bP := bP.below hbb (by omega)
      replace bPf := bPf.below hbb (by omega)
      replace bQ := bQ.below hbb (by omega)
      replace bQf := bQf.below hbb (by omega)
      replace bL := bL.below hbb (by omega)
      replace hB := hB.trans (hbb.mono (by omega))
      clear hbb
      rw [HC.out]
      clear hL
      clear bL
      have nbP : w.heap.size + 3 < w1.heap.size := by omega
      have lbP_0 := bP 0 _ rfl
      have lbP_1 := bP 1 _ rfl
      have lbP_2 := bP 2 _ rfl
      have lbP_3 := bP 3 _ rfl
      have lbP_4 := bP 4 _ rfl
      have lfbP_0 := bPf 0
      have lfbP_1 := bPf 1
      have lfbP_2 := bPf 2
      have lfbP_3 := bPf 3
      have lfbP_4 := bPf 4
      have nbQ : w.heap.size + 4 < w1.heap.size := by omega
      have lbQ_0 := bQ 0 _ rfl
      have lbQ_1 := bQ 1 _ rfl
      have lbQ_2 := bQ 2 _ rfl
      have lbQ_3 := bQ 3 _ rfl
      have lbQ_4 := bQ 4 _ rfl
      have lfbQ_0 := bQf 0
      have lfbQ_1 := bQf 1
      have lfbQ_2 := bQf 2
      have lfbQ_3 := bQf 3
      have lfbQ_4 := bQf 4
      go_wp2_with fail
      refine bodyPost_ret (v := .tuple #[.agg #[.int .i64 0, .int .i64 0, .int .i64 0, .int .i64 0, .int .i64 0], .agg #[.int .i64 0, .int .i64 0, .int .i64 0, .int .i64 0, .int .i64 0], .int .i64 0, .int .i64 5]) (by simp [results, Tryz.results6, go_sem, lbP_0, lbP_1, lbP_2, lbP_3, lbP_4, lbQ_0, lbQ_1, lbQ_2, lbQ_3, lbQ_4]) rfl ⟨by rw [HV.out], ?_⟩
      repeat (first | with_reducible refine Below.drew ?_ | with_reducible refine Below.setCell ?_ (by simp; try omega) _)
      exact hB
    · skip
      subst hz
      obtain ⟨e0, e1, e2⟩ := codeC_zero HC.out
      have E0 := hide e0
      have E1 := hide e1
      have EA := hide (e2 a (by simp))
      have EB := hide (e2 b (by simp))
      clear e0 e1 e2
      go_enter Tryz.func6, Tryz.ntmps6
      go_wp2_with fail
      obtain ⟨W0, hW0⟩ : ∃ W0 : World, W0 = ((((((w.alloc (.cells #[.int .i64 mg, .int .i64 st] 26)).alloc (.cells #[.int .i64 a.1, .int .i64 a.2.1, .int .i64 a.2.2.1, .int .i64 a.2.2.2.1, .int .i64 a.2.2.2.2] 28)).alloc (.cells #[.int .i64 b.1, .int .i64 b.2.1, .int .i64 b.2.2.1, .int .i64 b.2.2.2.1, .int .i64 b.2.2.2.2] 28)).alloc (.cells #[.int .i64 0, .int .i64 0, .int .i64 0, .int .i64 0, .int .i64 0] 28)).alloc (.cells #[.int .i64 0, .int .i64 0, .int .i64 0, .int .i64 0, .int .i64 0] 28)).alloc (.cells #[.int .i64 a.1, .int .i64 a.2.1, .int .i64 a.2.2.1, .int .i64 a.2.2.2.1, .int .i64 a.2.2.2.2, .int .i64 b.1, .int .i64 b.2.1, .int .i64 b.2.2.1, .int .i64 b.2.2.2.1, .int .i64 b.2.2.2.2] 28)) := ⟨_, rfl⟩
      rw [← hW0]
      have bR : Box W0 (w.heap.size) [.int .i64 mg, .int .i64 st] := by rw [hW0]; exact (((((box_at _ _ _ _ (by simp)).alloc (by simp) _).alloc (by simp; try omega) _).alloc (by simp; try omega) _).alloc (by simp; try omega) _).alloc (by simp; try omega) _
      have bA : Box W0 (w.heap.size + 1) [.int .i64 a.1, .int .i64 a.2.1, .int .i64 a.2.2.1, .int .i64 a.2.2.2.1, .int .i64 a.2.2.2.2] := by rw [hW0]; exact ((((box_at _ _ _ _ (by simp)).alloc (by simp) _).alloc (by simp; try omega) _).alloc (by simp; try omega) _).alloc (by simp; try omega) _
      have bAf : Fz W0 (w.heap.size + 1) := by rw [hW0]; exact ((((fz_at _ _ _ _ (by simp)).alloc (by simp) _).alloc (by simp; try omega) _).alloc (by simp; try omega) _).alloc (by simp; try omega) _
      have bB : Box W0 (w.heap.size + 2) [.int .i64 b.1, .int .i64 b.2.1, .int .i64 b.2.2.1, .int .i64 b.2.2.2.1, .int .i64 b.2.2.2.2] := by rw [hW0]; exact (((box_at _ _ _ _ (by simp)).alloc (by simp) _).alloc (by simp; try omega) _).alloc (by simp; try omega) _
      have bBf : Fz W0 (w.heap.size + 2) := by rw [hW0]; exact (((fz_at _ _ _ _ (by simp)).alloc (by simp) _).alloc (by simp; try omega) _).alloc (by simp; try omega) _
      have bP : Box W0 (w.heap.size + 3) [.int .i64 0, .int .i64 0, .int .i64 0, .int .i64 0, .int .i64 0] := by rw [hW0]; exact ((box_at _ _ _ _ (by simp)).alloc (by simp) _).alloc (by simp; try omega) _
      have bPf : Fz W0 (w.heap.size + 3) := by rw [hW0]; exact ((fz_at _ _ _ _ (by simp)).alloc (by simp) _).alloc (by simp; try omega) _
      have bQ : Box W0 (w.heap.size + 4) [.int .i64 0, .int .i64 0, .int .i64 0, .int .i64 0, .int .i64 0] := by rw [hW0]; exact (box_at _ _ _ _ (by simp)).alloc (by simp) _
      have bQf : Fz W0 (w.heap.size + 4) := by rw [hW0]; exact (fz_at _ _ _ _ (by simp)).alloc (by simp) _
      have bL : Box W0 (w.heap.size + 5) [.int .i64 a.1, .int .i64 a.2.1, .int .i64 a.2.2.1, .int .i64 a.2.2.2.1, .int .i64 a.2.2.2.2, .int .i64 b.1, .int .i64 b.2.1, .int .i64 b.2.2.1, .int .i64 b.2.2.2.1, .int .i64 b.2.2.2.2] := by rw [hW0]; exact box_at _ _ _ _ (by simp)
      have hL : Rd W0 (w.heap.size + 5) (w.heap.size + 5 + 1) 5 (some ⟨w.heap.size + 5, 0, none⟩) 2 (rCtl [a, b]) := by rw [hW0]; exact rd_new _ _ _ 2 5 rfl _ rfl _ (by simp)
      have hB : Below w.heap.size w W0 := by rw [hW0]; exact (by repeat (first | exact Below.refl _ _ | refine Below.drew ?_ | refine Below.alloc ?_ (by first | (simp; done) | (simp; omega)) _))
      have hs0 : w.heap.size + 6 ≤ W0.heap.size := by rw [hW0]; first | (simp; done) | (simp; omega)
      clear hW0
      replace hr := hr.below hB (by omega)
      refine (controlCode_any A n c lo hi T hm mg st _ 2 2 (w.heap.size + 5) (w.heap.size + 5 + 1) [a, b] rfl (by omega) _ hr (by omega) hL (by omega)).mono ?_
      rintro e w1 ⟨rfl, hb⟩
      have hbb : Below W0.heap.size W0 w1 := Below.trans (by repeat (first | exact Below.refl _ _ | refine Below.drew ?_ | refine Below.alloc ?_ (by first | (simp; done) | (simp; omega)) _)) (Below.mono hb (by simp))
      clear hb
      have hs1 := hbb.size
      replace hr := hr.below hbb (by omega)
      replace hL := hL.below hbb (by omega)
      replace bR := bR.below hbb (by omega)
      replace bA := bA.below hbb (by omega)
      replace bAf := bAf.below hbb (by omega)
      replace bB := bB.below hbb (by omega)
      replace bBf := bBf.below hbb (by omega)
      replace bP := bP.below hbb (by omega)
      replace bPf := bPf.below hbb (by omega)
      replace bQ := bQ.below hbb (by omega)
      replace bQf := bQf.below hbb (by omega)
      replace bL := bL.below hbb (by omega)
      replace hB := hB.trans (hbb.mono (by omega))
      clear hbb
      rw [HC.out]
      clear hL
      clear bL
      clear hr
      go_wp2_with fail
      go_loopw [15, 40] (fun bs i wr => ∃ (k : Nat) (q : Ctl × Ctl) (bd : Int), k ≤ m ∧ i = .int .i64 k ∧ bs = .int .i64 bd ∧ Hid (ctlOkP q.1 = true ∧ ctlOkP q.2 = true ∧ rsS T mg st L (a, b) k = (q, bd)) ∧ Below w.heap.size w wr ∧ w.heap.size + 6 ≤ wr.heap.size ∧ Box wr w.heap.size [.int .i64 mg, .int .i64 st] ∧ Box wr (w.heap.size + 1) [.int .i64 q.1.1, .int .i64 q.1.2.1, .int .i64 q.1.2.2.1, .int .i64 q.1.2.2.2.1, .int .i64 q.1.2.2.2.2] ∧ Fz wr (w.heap.size + 1) ∧ Box wr (w.heap.size + 2) [.int .i64 q.2.1, .int .i64 q.2.2.1, .int .i64 q.2.2.2.1, .int .i64 q.2.2.2.2.1, .int .i64 q.2.2.2.2.2] ∧ Fz wr (w.heap.size + 2) ∧ Box wr (w.heap.size + 3) [.int .i64 0, .int .i64 0, .int .i64 0, .int .i64 0, .int .i64 0] ∧ Fz wr (w.heap.size + 3) ∧ Box wr (w.heap.size + 4) [.int .i64 0, .int .i64 0, .int .i64 0, .int .i64 0, .int .i64 0] ∧ Fz wr (w.heap.size + 4)) (fun _ i _ => m - (intOf i).toNat)
      case atStart => exact ⟨0, (a, b), -1, by omega, rfl, rfl, hide ⟨EA.out, EB.out, rfl⟩, hB, by omega, bR, bA, bAf, bB, bBf, bP, bPf, bQ, bQf⟩
      case round =>
        obtain ⟨k, ⟨⟨p0, p1, p2, p3, p4⟩, ⟨q0, q1, q2, q3, q4⟩⟩, bd, hk, rfl, rfl, HP, hB, hsr, bR, bA, bAf, bB, bBf, bP, bPf, bQ, bQf⟩ := hrel
        change Box wr (w.heap.size + 1) [.int .i64 p0, .int .i64 p1, .int .i64 p2, .int .i64 p3, .int .i64 p4] at bA
        change Box wr (w.heap.size + 2) [.int .i64 q0, .int .i64 q1, .int .i64 q2, .int .i64 q3, .int .i64 q4] at bB
        have HPA := hide HP.out.1
        have HQA := hide HP.out.2.1
        have HST := hide HP.out.2.2
        by_cases hlt : k < m
        · skip
          have hr := HR0.out.below hB hhi
          have hx := HX0.out.below hB hhx
          have hlen : k < L.length := by rw [HL.out]; exact hlt
          obtain ⟨bx, ox, rfl, hx1, hx2, hcx⟩ := hx.2 (by omega)
          obtain ⟨t0, t1⟩ := rRound_at L k hlen
          obtain ⟨⟨x1, x2⟩, hxk⟩ : ∃ x, L[k] = x := ⟨_, rfl⟩
          rw [hxk] at t0 t1
          have HXK := hide hxk
          obtain ⟨⟨⟨r0, r1, r2, r3, r4⟩, ⟨s0, s1, s2, s3, s4⟩⟩, hrc⟩ : ∃ rc, roundC T mg st x1 x2 ((p0, p1, p2, p3, p4), (q0, q1, q2, q3, q4)) = rc := ⟨_, rfl⟩
          have HRC := hide hrc
          have HOK : Hid (ctlOkP (r0, r1, r2, r3, r4) = true ∧ ctlOkP (s0, s1, s2, s3, s4) = true) := by have h := roundC_ok (T := T) (mg := mg) (st := st) (x1 := x1) (x2 := x2) (p := ((p0, p1, p2, p3, p4), (q0, q1, q2, q3, q4))) HPA.out HQA.out; rw [hrc] at h; exact hide h
          clear hxk hrc hx
          have hbx : bx < w.heap.size := by omega
          have d0 : wr.cell? ⟨bx, ox + k * 2, none⟩ = some (.bool x1) := hcx _ _ t0
          have d1 : wr.cell? ⟨bx, ox + k * 2 + 1, none⟩ = some (.bool x2) := hcx _ _ t1
          clear hcx t0 t1
          have nbR : w.heap.size < wr.heap.size := by omega
          have lbR_0 := bR 0 _ rfl
          have lbR_1 := bR 1 _ rfl
          have nbA : w.heap.size + 1 < wr.heap.size := by omega
          have lbA_0 := bA 0 _ rfl
          have lbA_1 := bA 1 _ rfl
          have lbA_2 := bA 2 _ rfl
          have lbA_3 := bA 3 _ rfl
          have lbA_4 := bA 4 _ rfl
          have lfbA_0 := bAf 0
          have lfbA_1 := bAf 1
          have lfbA_2 := bAf 2
          have lfbA_3 := bAf 3
          have lfbA_4 := bAf 4
          have nbB : w.heap.size + 2 < wr.heap.size := by omega
          have lbB_0 := bB 0 _ rfl
          have lbB_1 := bB 1 _ rfl
          have lbB_2 := bB 2 _ rfl
          have lbB_3 := bB 3 _ rfl
          have lbB_4 := bB 4 _ rfl
          have lfbB_0 := bBf 0
          have lfbB_1 := bBf 1
          have lfbB_2 := bBf 2
          have lfbB_3 := bBf 3
          have lfbB_4 := bBf 4
          go_wp2_with fail
          refine (implRound_as A n c lo hi T E0 mg st p0 p1 p2 p3 p4 q0 q1 q2 q3 q4 x1 x2 E1 HPA HQA _ HRC (RdSS.lay hr (by omega) _) (le_lay (by omega))).mono ?_
          rintro e w2 ⟨rfl, hb⟩
          have hbb : Below wr.heap.size wr w2 := Below.trans (by repeat (first | exact Below.refl _ _ | refine Below.drew ?_ | refine Below.alloc ?_ (by first | (simp; done) | (simp; omega)) _)) (Below.mono hb (by simp))
          clear hb
          have hs2 := hbb.size
          replace hr := hr.below hbb (by omega)
          replace bR := bR.below hbb (by omega)
          replace bA := bA.below hbb (by omega)
          replace bAf := bAf.below hbb (by omega)
          replace bB := bB.below hbb (by omega)
          replace bBf := bBf.below hbb (by omega)
          replace bP := bP.below hbb (by omega)
          replace bPf := bPf.below hbb (by omega)
          replace bQ := bQ.below hbb (by omega)
          replace bQf := bQf.below hbb (by omega)
          replace hB := hB.trans (hbb.mono (by omega))
          clear hbb
          clear nbR lbR_0 lbR_1 nbA lbA_0 lbA_1 lbA_2 lbA_3 lbA_4 lfbA_0 lfbA_1 lfbA_2 lfbA_3 lfbA_4 nbB lbB_0 lbB_1 lbB_2 lbB_3 lbB_4 lfbB_0 lfbB_1 lfbB_2 lfbB_3 lfbB_4
          clear d0 d1
          go_upto_region 11 with fail
          obtain ⟨w3, hW⟩ : ∃ W : World, W = ((w2.alloc (.cells #[.int .i64 r0, .int .i64 r1, .int .i64 r2, .int .i64 r3, .int .i64 r4] 28)).alloc (.cells #[.int .i64 s0, .int .i64 s1, .int .i64 s2, .int .i64 s3, .int .i64 s4] 28)) := ⟨_, rfl⟩
          rw [← hW]
          have bC : Box w3 (w2.heap.size) [.int .i64 r0, .int .i64 r1, .int .i64 r2, .int .i64 r3, .int .i64 r4] := by rw [hW]; exact (box_at _ _ _ _ (by simp)).alloc (by simp) _
          have bD : Box w3 (w2.heap.size + 1) [.int .i64 s0, .int .i64 s1, .int .i64 s2, .int .i64 s3, .int .i64 s4] := by rw [hW]; exact box_at _ _ _ _ (by simp)
          have hbb : Below w2.heap.size w2 w3 := by rw [hW]; exact (by repeat (first | exact Below.refl _ _ | refine Below.drew ?_ | refine Below.alloc ?_ (by first | (simp; done) | (simp; omega)) _))
          have hs3 : w2.heap.size + 2 ≤ w3.heap.size := by rw [hW]; first | (simp; done) | (simp; omega)
          clear hW
          replace hr := hr.below hbb (by omega)
          replace bR := bR.below hbb (by omega)
          replace bA := bA.below hbb (by omega)
          replace bAf := bAf.below hbb (by omega)
          replace bB := bB.below hbb (by omega)
          replace bBf := bBf.below hbb (by omega)
          replace bP := bP.below hbb (by omega)
          replace bPf := bPf.below hbb (by omega)
          replace bQ := bQ.below hbb (by omega)
          replace bQf := bQf.below hbb (by omega)
          replace hB := hB.trans (hbb.mono (by omega))
          clear hbb
          by_cases hbd : bd < 0
          · skip
            have nbA : w.heap.size + 1 < w3.heap.size := by omega
            have lbA_0 := bA 0 _ rfl
            have lbA_1 := bA 1 _ rfl
            have lbA_2 := bA 2 _ rfl
            have lbA_3 := bA 3 _ rfl
            have lbA_4 := bA 4 _ rfl
            have lfbA_0 := bAf 0
            have lfbA_1 := bAf 1
            have lfbA_2 := bAf 2
            have lfbA_3 := bAf 3
            have lfbA_4 := bAf 4
            have nbB : w.heap.size + 2 < w3.heap.size := by omega
            have lbB_0 := bB 0 _ rfl
            have lbB_1 := bB 1 _ rfl
            have lbB_2 := bB 2 _ rfl
            have lbB_3 := bB 3 _ rfl
            have lbB_4 := bB 4 _ rfl
            have lfbB_0 := bBf 0
            have lfbB_1 := bBf 1
            have lfbB_2 := bBf 2
            have lfbB_3 := bBf 3
            have lfbB_4 := bBf 4
            have nbC : w2.heap.size < w3.heap.size := by omega
            have lbC_0 := bC 0 _ rfl
            have lbC_1 := bC 1 _ rfl
            have lbC_2 := bC 2 _ rfl
            have lbC_3 := bC 3 _ rfl
            have lbC_4 := bC 4 _ rfl
            have nbD : w2.heap.size + 1 < w3.heap.size := by omega
            have lbD_0 := bD 0 _ rfl
            have lbD_1 := bD 1 _ rfl
            have lbD_2 := bD 2 _ rfl
            have lbD_3 := bD 3 _ rfl
            have lbD_4 := bD 4 _ rfl
            have qa := (ctlOk_true HPA.out).1
            have qb := (ctlOk_true HQA.out).1
            have qc := (ctlOk_true HOK.out.1).1
            have qd := (ctlOk_true HOK.out.2).1
            obtain ⟨bc, hbc⟩ : ∃ bc, badC T ((p0, p1, p2, p3, p4), (q0, q1, q2, q3, q4)) ((r0, r1, r2, r3, r4), (s0, s1, s2, s3, s4)) = bc := ⟨_, rfl⟩
            go_wp2_with fail
            refine (clashes_any A n c lo hi T E0.out p0 q0 r0 s0 qa.1 qa.2 qb.1 qb.2 qc.1 qc.2 qd.1 qd.2 _ hr).mono ?_
            rintro e w10 ⟨rfl, hw⟩
            obtain rfl := hw.symm
            rw [show (tg T r0 s0 || (tg T r0 q0 || tg T p0 s0)) = bc from hbc]
            clear nbA lbA_0 lbA_1 lbA_2 lbA_3 lbA_4 lfbA_0 lfbA_1 lfbA_2 lfbA_3 lfbA_4 nbB lbB_0 lbB_1 lbB_2 lbB_3 lbB_4 lfbB_0 lfbB_1 lfbB_2 lfbB_3 lfbB_4 nbC lbC_0 lbC_1 lbC_2 lbC_3 lbC_4 nbD lbD_0 lbD_1 lbD_2 lbD_3 lbD_4
            have HBC := hide hbc
            clear hbc qa qb qc qd
            cases bc
            case false =>
              have n1 : (w2.heap.size + 1) ≠ w.heap.size + 1 := by omega
              have n2 : w.heap.size + 1 ≠ (w2.heap.size + 1) := by omega
              have n3 : w2.heap.size ≠ w.heap.size + 1 := by omega
              have n4 : w.heap.size + 1 ≠ w2.heap.size := by omega
              have nbA : w.heap.size + 1 < w3.heap.size := by omega
              have lbA_0 := bA 0 _ rfl
              have lbA_1 := bA 1 _ rfl
              have lbA_2 := bA 2 _ rfl
              have lbA_3 := bA 3 _ rfl
              have lbA_4 := bA 4 _ rfl
              have lfbA_0 := bAf 0
              have lfbA_1 := bAf 1
              have lfbA_2 := bAf 2
              have lfbA_3 := bAf 3
              have lfbA_4 := bAf 4
              have nbB : w.heap.size + 2 < w3.heap.size := by omega
              have lbB_0 := bB 0 _ rfl
              have lbB_1 := bB 1 _ rfl
              have lbB_2 := bB 2 _ rfl
              have lbB_3 := bB 3 _ rfl
              have lbB_4 := bB 4 _ rfl
              have lfbB_0 := bBf 0
              have lfbB_1 := bBf 1
              have lfbB_2 := bBf 2
              have lfbB_3 := bBf 3
              have lfbB_4 := bBf 4
              have nbC : w2.heap.size < w3.heap.size := by omega
              have lbC_0 := bC 0 _ rfl
              have lbC_1 := bC 1 _ rfl
              have lbC_2 := bC 2 _ rfl
              have lbC_3 := bC 3 _ rfl
              have lbC_4 := bC 4 _ rfl
              have nbD : w2.heap.size + 1 < w3.heap.size := by omega
              have lbD_0 := bD 0 _ rfl
              have lbD_1 := bD 1 _ rfl
              have lbD_2 := bD 2 _ rfl
              have lbD_3 := bD 3 _ rfl
              have lbD_4 := bD 4 _ rfl
              go_wp2_with fail
              have HS : Hid (w3.cell? ⟨w2.heap.size, 0, none⟩ = some (.int .i64 r0) ∧ w3.cell? ⟨w2.heap.size, 1, none⟩ = some (.int .i64 r1) ∧ w3.cell? ⟨w2.heap.size, 2, none⟩ = some (.int .i64 r2) ∧ w3.cell? ⟨w2.heap.size, 3, none⟩ = some (.int .i64 r3) ∧ w3.cell? ⟨w2.heap.size, 4, none⟩ = some (.int .i64 r4) ∧ w3.cell? ⟨w2.heap.size + 1, 0, none⟩ = some (.int .i64 s0) ∧ w3.cell? ⟨w2.heap.size + 1, 1, none⟩ = some (.int .i64 s1) ∧ w3.cell? ⟨w2.heap.size + 1, 2, none⟩ = some (.int .i64 s2) ∧ w3.cell? ⟨w2.heap.size + 1, 3, none⟩ = some (.int .i64 s3) ∧ w3.cell? ⟨w2.heap.size + 1, 4, none⟩ = some (.int .i64 s4)) := hide ⟨bC 0 _ rfl, bC 1 _ rfl, bC 2 _ rfl, bC 3 _ rfl, bC 4 _ rfl, bD 0 _ rfl, bD 1 _ rfl, bD 2 _ rfl, bD 3 _ rfl, bD 4 _ rfl⟩
              have HD : Hid ((World.drew w3).cell? ⟨w2.heap.size, 0, none⟩ = some (.int .i64 r0) ∧ (World.drew w3).cell? ⟨w2.heap.size, 1, none⟩ = some (.int .i64 r1) ∧ (World.drew w3).cell? ⟨w2.heap.size, 2, none⟩ = some (.int .i64 r2) ∧ (World.drew w3).cell? ⟨w2.heap.size, 3, none⟩ = some (.int .i64 r3) ∧ (World.drew w3).cell? ⟨w2.heap.size, 4, none⟩ = some (.int .i64 r4) ∧ (World.drew w3).cell? ⟨w2.heap.size + 1, 0, none⟩ = some (.int .i64 s0) ∧ (World.drew w3).cell? ⟨w2.heap.size + 1, 1, none⟩ = some (.int .i64 s1) ∧ (World.drew w3).cell? ⟨w2.heap.size + 1, 2, none⟩ = some (.int .i64 s2) ∧ (World.drew w3).cell? ⟨w2.heap.size + 1, 3, none⟩ = some (.int .i64 s3) ∧ (World.drew w3).cell? ⟨w2.heap.size + 1, 4, none⟩ = some (.int .i64 s4)) := HS
              go_region_held3 (fun W => W.cell? ⟨w2.heap.size, 0, none⟩ = some (.int .i64 r0) ∧ W.cell? ⟨w2.heap.size, 1, none⟩ = some (.int .i64 r1) ∧ W.cell? ⟨w2.heap.size, 2, none⟩ = some (.int .i64 r2) ∧ W.cell? ⟨w2.heap.size, 3, none⟩ = some (.int .i64 r3) ∧ W.cell? ⟨w2.heap.size, 4, none⟩ = some (.int .i64 r4) ∧ W.cell? ⟨w2.heap.size + 1, 0, none⟩ = some (.int .i64 s0) ∧ W.cell? ⟨w2.heap.size + 1, 1, none⟩ = some (.int .i64 s1) ∧ W.cell? ⟨w2.heap.size + 1, 2, none⟩ = some (.int .i64 s2) ∧ W.cell? ⟨w2.heap.size + 1, 3, none⟩ = some (.int .i64 s3) ∧ W.cell? ⟨w2.heap.size + 1, 4, none⟩ = some (.int .i64 s4)) (first | (with_reducible exact HS.out) | (with_reducible exact HD.out) | ((with_reducible refine ⟨?_, ?_, ?_, ?_, ?_, ?_, ?_, ?_, ?_, ?_⟩) <;> ((repeat (first | (with_reducible refine (far5 (by omega)).trans ?_) | (with_reducible refine (far5n (by omega)).trans ?_))); first | (with_reducible exact HS.out.1) | (with_reducible exact HS.out.2.1) | (with_reducible exact HS.out.2.2.1) | (with_reducible exact HS.out.2.2.2.1) | (with_reducible exact HS.out.2.2.2.2.1) | (with_reducible exact HS.out.2.2.2.2.2.1) | (with_reducible exact HS.out.2.2.2.2.2.2.1) | (with_reducible exact HS.out.2.2.2.2.2.2.2.1) | (with_reducible exact HS.out.2.2.2.2.2.2.2.2.1) | (with_reducible exact HS.out.2.2.2.2.2.2.2.2.2)))) (fail)
              all_goals go_wp2_with fail
              go_roundw
              case rel =>
                refine ⟨k + 1, ((r0, r1, r2, r3, r4), (s0, s1, s2, s3, s4)), bd, by omega, by go_num, rfl, hide ⟨HOK.out.1, HOK.out.2, rsS_no HST.out hlen HXK.out HRC.out (by rw [HBC.out]; simp)⟩, ?_, le_drew (by simp [World.setCell]; omega), (BoxD (Box.far (Box.far (Box.far (Box.far (Box.far (Box.far (Box.far (Box.far (Box.far (Box.far bR _ _ (by simp; try omega)) _ _ (by simp; try omega)) _ _ (by simp; try omega)) _ _ (by simp; try omega)) _ _ (by simp; try omega)) _ _ (by simp; try omega)) _ _ (by simp; try omega)) _ _ (by simp; try omega)) _ _ (by simp; try omega)) _ _ (by simp; try omega))), (BoxD (Box.far (Box.far (Box.far (Box.far (Box.far (Box.put (Box.put (Box.put (Box.put (Box.put bA 0 _ (by simp)) 1 _ (by simp)) 2 _ (by simp)) 3 _ (by simp)) 4 _ (by simp)) _ _ (by simp; try omega)) _ _ (by simp; try omega)) _ _ (by simp; try omega)) _ _ (by simp; try omega)) _ _ (by simp; try omega))), (FzD ((((((((((bAf.set _ _).set _ _).set _ _).set _ _).set _ _).set _ _).set _ _).set _ _).set _ _).set _ _)), (BoxD (Box.put (Box.put (Box.put (Box.put (Box.put (Box.far (Box.far (Box.far (Box.far (Box.far bB _ _ (by simp; try omega)) _ _ (by simp; try omega)) _ _ (by simp; try omega)) _ _ (by simp; try omega)) _ _ (by simp; try omega)) 0 _ (by simp)) 1 _ (by simp)) 2 _ (by simp)) 3 _ (by simp)) 4 _ (by simp))), (FzD ((((((((((bBf.set _ _).set _ _).set _ _).set _ _).set _ _).set _ _).set _ _).set _ _).set _ _).set _ _)), (BoxD (Box.far (Box.far (Box.far (Box.far (Box.far (Box.far (Box.far (Box.far (Box.far (Box.far bP _ _ (by simp; try omega)) _ _ (by simp; try omega)) _ _ (by simp; try omega)) _ _ (by simp; try omega)) _ _ (by simp; try omega)) _ _ (by simp; try omega)) _ _ (by simp; try omega)) _ _ (by simp; try omega)) _ _ (by simp; try omega)) _ _ (by simp; try omega))), (FzD ((((((((((bPf.set _ _).set _ _).set _ _).set _ _).set _ _).set _ _).set _ _).set _ _).set _ _).set _ _)), (BoxD (Box.far (Box.far (Box.far (Box.far (Box.far (Box.far (Box.far (Box.far (Box.far (Box.far bQ _ _ (by simp; try omega)) _ _ (by simp; try omega)) _ _ (by simp; try omega)) _ _ (by simp; try omega)) _ _ (by simp; try omega)) _ _ (by simp; try omega)) _ _ (by simp; try omega)) _ _ (by simp; try omega)) _ _ (by simp; try omega)) _ _ (by simp; try omega))), (FzD ((((((((((bQf.set _ _).set _ _).set _ _).set _ _).set _ _).set _ _).set _ _).set _ _).set _ _).set _ _))⟩
                refine Below.drew ?_
                repeat (with_reducible refine Below.setCell ?_ (by simp; try omega) _)
                exact hB
              case measure => simp [intOf]; omega
            case true =>
              have n1 : (w2.heap.size + 1) ≠ w.heap.size + 1 := by omega
              have n2 : w.heap.size + 1 ≠ (w2.heap.size + 1) := by omega
              have n3 : w2.heap.size ≠ w.heap.size + 1 := by omega
              have n4 : w.heap.size + 1 ≠ w2.heap.size := by omega
              have nbA : w.heap.size + 1 < w3.heap.size := by omega
              have lbA_0 := bA 0 _ rfl
              have lbA_1 := bA 1 _ rfl
              have lbA_2 := bA 2 _ rfl
              have lbA_3 := bA 3 _ rfl
              have lbA_4 := bA 4 _ rfl
              have lfbA_0 := bAf 0
              have lfbA_1 := bAf 1
              have lfbA_2 := bAf 2
              have lfbA_3 := bAf 3
              have lfbA_4 := bAf 4
              have nbB : w.heap.size + 2 < w3.heap.size := by omega
              have lbB_0 := bB 0 _ rfl
              have lbB_1 := bB 1 _ rfl
              have lbB_2 := bB 2 _ rfl
              have lbB_3 := bB 3 _ rfl
              have lbB_4 := bB 4 _ rfl
              have lfbB_0 := bBf 0
              have lfbB_1 := bBf 1
              have lfbB_2 := bBf 2
              have lfbB_3 := bBf 3
              have lfbB_4 := bBf 4
              have nbC : w2.heap.size < w3.heap.size := by omega
              have lbC_0 := bC 0 _ rfl
              have lbC_1 := bC 1 _ rfl
              have lbC_2 := bC 2 _ rfl
              have lbC_3 := bC 3 _ rfl
              have lbC_4 := bC 4 _ rfl
              have nbD : w2.heap.size + 1 < w3.heap.size := by omega
              have lbD_0 := bD 0 _ rfl
              have lbD_1 := bD 1 _ rfl
              have lbD_2 := bD 2 _ rfl
              have lbD_3 := bD 3 _ rfl
              have lbD_4 := bD 4 _ rfl
              go_wp2_with fail
              have HS : Hid (w3.cell? ⟨w2.heap.size, 0, none⟩ = some (.int .i64 r0) ∧ w3.cell? ⟨w2.heap.size, 1, none⟩ = some (.int .i64 r1) ∧ w3.cell? ⟨w2.heap.size, 2, none⟩ = some (.int .i64 r2) ∧ w3.cell? ⟨w2.heap.size, 3, none⟩ = some (.int .i64 r3) ∧ w3.cell? ⟨w2.heap.size, 4, none⟩ = some (.int .i64 r4) ∧ w3.cell? ⟨w2.heap.size + 1, 0, none⟩ = some (.int .i64 s0) ∧ w3.cell? ⟨w2.heap.size + 1, 1, none⟩ = some (.int .i64 s1) ∧ w3.cell? ⟨w2.heap.size + 1, 2, none⟩ = some (.int .i64 s2) ∧ w3.cell? ⟨w2.heap.size + 1, 3, none⟩ = some (.int .i64 s3) ∧ w3.cell? ⟨w2.heap.size + 1, 4, none⟩ = some (.int .i64 s4)) := hide ⟨bC 0 _ rfl, bC 1 _ rfl, bC 2 _ rfl, bC 3 _ rfl, bC 4 _ rfl, bD 0 _ rfl, bD 1 _ rfl, bD 2 _ rfl, bD 3 _ rfl, bD 4 _ rfl⟩
              have HD : Hid ((World.drew w3).cell? ⟨w2.heap.size, 0, none⟩ = some (.int .i64 r0) ∧ (World.drew w3).cell? ⟨w2.heap.size, 1, none⟩ = some (.int .i64 r1) ∧ (World.drew w3).cell? ⟨w2.heap.size, 2, none⟩ = some (.int .i64 r2) ∧ (World.drew w3).cell? ⟨w2.heap.size, 3, none⟩ = some (.int .i64 r3) ∧ (World.drew w3).cell? ⟨w2.heap.size, 4, none⟩ = some (.int .i64 r4) ∧ (World.drew w3).cell? ⟨w2.heap.size + 1, 0, none⟩ = some (.int .i64 s0) ∧ (World.drew w3).cell? ⟨w2.heap.size + 1, 1, none⟩ = some (.int .i64 s1) ∧ (World.drew w3).cell? ⟨w2.heap.size + 1, 2, none⟩ = some (.int .i64 s2) ∧ (World.drew w3).cell? ⟨w2.heap.size + 1, 3, none⟩ = some (.int .i64 s3) ∧ (World.drew w3).cell? ⟨w2.heap.size + 1, 4, none⟩ = some (.int .i64 s4)) := HS
              go_region_held3 (fun W => W.cell? ⟨w2.heap.size, 0, none⟩ = some (.int .i64 r0) ∧ W.cell? ⟨w2.heap.size, 1, none⟩ = some (.int .i64 r1) ∧ W.cell? ⟨w2.heap.size, 2, none⟩ = some (.int .i64 r2) ∧ W.cell? ⟨w2.heap.size, 3, none⟩ = some (.int .i64 r3) ∧ W.cell? ⟨w2.heap.size, 4, none⟩ = some (.int .i64 r4) ∧ W.cell? ⟨w2.heap.size + 1, 0, none⟩ = some (.int .i64 s0) ∧ W.cell? ⟨w2.heap.size + 1, 1, none⟩ = some (.int .i64 s1) ∧ W.cell? ⟨w2.heap.size + 1, 2, none⟩ = some (.int .i64 s2) ∧ W.cell? ⟨w2.heap.size + 1, 3, none⟩ = some (.int .i64 s3) ∧ W.cell? ⟨w2.heap.size + 1, 4, none⟩ = some (.int .i64 s4)) (first | (with_reducible exact HS.out) | (with_reducible exact HD.out) | ((with_reducible refine ⟨?_, ?_, ?_, ?_, ?_, ?_, ?_, ?_, ?_, ?_⟩) <;> ((repeat (first | (with_reducible refine (far5 (by omega)).trans ?_) | (with_reducible refine (far5n (by omega)).trans ?_))); first | (with_reducible exact HS.out.1) | (with_reducible exact HS.out.2.1) | (with_reducible exact HS.out.2.2.1) | (with_reducible exact HS.out.2.2.2.1) | (with_reducible exact HS.out.2.2.2.2.1) | (with_reducible exact HS.out.2.2.2.2.2.1) | (with_reducible exact HS.out.2.2.2.2.2.2.1) | (with_reducible exact HS.out.2.2.2.2.2.2.2.1) | (with_reducible exact HS.out.2.2.2.2.2.2.2.2.1) | (with_reducible exact HS.out.2.2.2.2.2.2.2.2.2)))) (fail)
              all_goals go_wp2_with fail
              go_roundw
              case rel =>
                refine ⟨k + 1, ((r0, r1, r2, r3, r4), (s0, s1, s2, s3, s4)), (k : Int), by omega, by go_num, rfl, hide ⟨HOK.out.1, HOK.out.2, rsS_yes HST.out hlen HXK.out HRC.out hbd HBC.out⟩, ?_, le_drew (by simp [World.setCell]; omega), (BoxD (Box.far (Box.far (Box.far (Box.far (Box.far (Box.far (Box.far (Box.far (Box.far (Box.far bR _ _ (by simp; try omega)) _ _ (by simp; try omega)) _ _ (by simp; try omega)) _ _ (by simp; try omega)) _ _ (by simp; try omega)) _ _ (by simp; try omega)) _ _ (by simp; try omega)) _ _ (by simp; try omega)) _ _ (by simp; try omega)) _ _ (by simp; try omega))), (BoxD (Box.far (Box.far (Box.far (Box.far (Box.far (Box.put (Box.put (Box.put (Box.put (Box.put bA 0 _ (by simp)) 1 _ (by simp)) 2 _ (by simp)) 3 _ (by simp)) 4 _ (by simp)) _ _ (by simp; try omega)) _ _ (by simp; try omega)) _ _ (by simp; try omega)) _ _ (by simp; try omega)) _ _ (by simp; try omega))), (FzD ((((((((((bAf.set _ _).set _ _).set _ _).set _ _).set _ _).set _ _).set _ _).set _ _).set _ _).set _ _)), (BoxD (Box.put (Box.put (Box.put (Box.put (Box.put (Box.far (Box.far (Box.far (Box.far (Box.far bB _ _ (by simp; try omega)) _ _ (by simp; try omega)) _ _ (by simp; try omega)) _ _ (by simp; try omega)) _ _ (by simp; try omega)) 0 _ (by simp)) 1 _ (by simp)) 2 _ (by simp)) 3 _ (by simp)) 4 _ (by simp))), (FzD ((((((((((bBf.set _ _).set _ _).set _ _).set _ _).set _ _).set _ _).set _ _).set _ _).set _ _).set _ _)), (BoxD (Box.far (Box.far (Box.far (Box.far (Box.far (Box.far (Box.far (Box.far (Box.far (Box.far bP _ _ (by simp; try omega)) _ _ (by simp; try omega)) _ _ (by simp; try omega)) _ _ (by simp; try omega)) _ _ (by simp; try omega)) _ _ (by simp; try omega)) _ _ (by simp; try omega)) _ _ (by simp; try omega)) _ _ (by simp; try omega)) _ _ (by simp; try omega))), (FzD ((((((((((bPf.set _ _).set _ _).set _ _).set _ _).set _ _).set _ _).set _ _).set _ _).set _ _).set _ _)), (BoxD (Box.far (Box.far (Box.far (Box.far (Box.far (Box.far (Box.far (Box.far (Box.far (Box.far bQ _ _ (by simp; try omega)) _ _ (by simp; try omega)) _ _ (by simp; try omega)) _ _ (by simp; try omega)) _ _ (by simp; try omega)) _ _ (by simp; try omega)) _ _ (by simp; try omega)) _ _ (by simp; try omega)) _ _ (by simp; try omega)) _ _ (by simp; try omega))), (FzD ((((((((((bQf.set _ _).set _ _).set _ _).set _ _).set _ _).set _ _).set _ _).set _ _).set _ _).set _ _))⟩
                refine Below.drew ?_
                repeat (with_reducible refine Below.setCell ?_ (by simp; try omega) _)
                exact hB
              case measure => simp [intOf]; omega
          · skip
            have n1 : (w2.heap.size + 1) ≠ w.heap.size + 1 := by omega
            have n2 : w.heap.size + 1 ≠ (w2.heap.size + 1) := by omega
            have n3 : w2.heap.size ≠ w.heap.size + 1 := by omega
            have n4 : w.heap.size + 1 ≠ w2.heap.size := by omega
            have nbA : w.heap.size + 1 < w3.heap.size := by omega
            have lbA_0 := bA 0 _ rfl
            have lbA_1 := bA 1 _ rfl
            have lbA_2 := bA 2 _ rfl
            have lbA_3 := bA 3 _ rfl
            have lbA_4 := bA 4 _ rfl
            have lfbA_0 := bAf 0
            have lfbA_1 := bAf 1
            have lfbA_2 := bAf 2
            have lfbA_3 := bAf 3
            have lfbA_4 := bAf 4
            have nbB : w.heap.size + 2 < w3.heap.size := by omega
            have lbB_0 := bB 0 _ rfl
            have lbB_1 := bB 1 _ rfl
            have lbB_2 := bB 2 _ rfl
            have lbB_3 := bB 3 _ rfl
            have lbB_4 := bB 4 _ rfl
            have lfbB_0 := bBf 0
            have lfbB_1 := bBf 1
            have lfbB_2 := bBf 2
            have lfbB_3 := bBf 3
            have lfbB_4 := bBf 4
            have nbC : w2.heap.size < w3.heap.size := by omega
            have lbC_0 := bC 0 _ rfl
            have lbC_1 := bC 1 _ rfl
            have lbC_2 := bC 2 _ rfl
            have lbC_3 := bC 3 _ rfl
            have lbC_4 := bC 4 _ rfl
            have nbD : w2.heap.size + 1 < w3.heap.size := by omega
            have lbD_0 := bD 0 _ rfl
            have lbD_1 := bD 1 _ rfl
            have lbD_2 := bD 2 _ rfl
            have lbD_3 := bD 3 _ rfl
            have lbD_4 := bD 4 _ rfl
            go_wp2_with fail
            have HS : Hid (w3.cell? ⟨w2.heap.size, 0, none⟩ = some (.int .i64 r0) ∧ w3.cell? ⟨w2.heap.size, 1, none⟩ = some (.int .i64 r1) ∧ w3.cell? ⟨w2.heap.size, 2, none⟩ = some (.int .i64 r2) ∧ w3.cell? ⟨w2.heap.size, 3, none⟩ = some (.int .i64 r3) ∧ w3.cell? ⟨w2.heap.size, 4, none⟩ = some (.int .i64 r4) ∧ w3.cell? ⟨w2.heap.size + 1, 0, none⟩ = some (.int .i64 s0) ∧ w3.cell? ⟨w2.heap.size + 1, 1, none⟩ = some (.int .i64 s1) ∧ w3.cell? ⟨w2.heap.size + 1, 2, none⟩ = some (.int .i64 s2) ∧ w3.cell? ⟨w2.heap.size + 1, 3, none⟩ = some (.int .i64 s3) ∧ w3.cell? ⟨w2.heap.size + 1, 4, none⟩ = some (.int .i64 s4)) := hide ⟨bC 0 _ rfl, bC 1 _ rfl, bC 2 _ rfl, bC 3 _ rfl, bC 4 _ rfl, bD 0 _ rfl, bD 1 _ rfl, bD 2 _ rfl, bD 3 _ rfl, bD 4 _ rfl⟩
            have HD : Hid ((World.drew w3).cell? ⟨w2.heap.size, 0, none⟩ = some (.int .i64 r0) ∧ (World.drew w3).cell? ⟨w2.heap.size, 1, none⟩ = some (.int .i64 r1) ∧ (World.drew w3).cell? ⟨w2.heap.size, 2, none⟩ = some (.int .i64 r2) ∧ (World.drew w3).cell? ⟨w2.heap.size, 3, none⟩ = some (.int .i64 r3) ∧ (World.drew w3).cell? ⟨w2.heap.size, 4, none⟩ = some (.int .i64 r4) ∧ (World.drew w3).cell? ⟨w2.heap.size + 1, 0, none⟩ = some (.int .i64 s0) ∧ (World.drew w3).cell? ⟨w2.heap.size + 1, 1, none⟩ = some (.int .i64 s1) ∧ (World.drew w3).cell? ⟨w2.heap.size + 1, 2, none⟩ = some (.int .i64 s2) ∧ (World.drew w3).cell? ⟨w2.heap.size + 1, 3, none⟩ = some (.int .i64 s3) ∧ (World.drew w3).cell? ⟨w2.heap.size + 1, 4, none⟩ = some (.int .i64 s4)) := HS
            go_region_held3 (fun W => W.cell? ⟨w2.heap.size, 0, none⟩ = some (.int .i64 r0) ∧ W.cell? ⟨w2.heap.size, 1, none⟩ = some (.int .i64 r1) ∧ W.cell? ⟨w2.heap.size, 2, none⟩ = some (.int .i64 r2) ∧ W.cell? ⟨w2.heap.size, 3, none⟩ = some (.int .i64 r3) ∧ W.cell? ⟨w2.heap.size, 4, none⟩ = some (.int .i64 r4) ∧ W.cell? ⟨w2.heap.size + 1, 0, none⟩ = some (.int .i64 s0) ∧ W.cell? ⟨w2.heap.size + 1, 1, none⟩ = some (.int .i64 s1) ∧ W.cell? ⟨w2.heap.size + 1, 2, none⟩ = some (.int .i64 s2) ∧ W.cell? ⟨w2.heap.size + 1, 3, none⟩ = some (.int .i64 s3) ∧ W.cell? ⟨w2.heap.size + 1, 4, none⟩ = some (.int .i64 s4)) (first | (with_reducible exact HS.out) | (with_reducible exact HD.out) | ((with_reducible refine ⟨?_, ?_, ?_, ?_, ?_, ?_, ?_, ?_, ?_, ?_⟩) <;> ((repeat (first | (with_reducible refine (far5 (by omega)).trans ?_) | (with_reducible refine (far5n (by omega)).trans ?_))); first | (with_reducible exact HS.out.1) | (with_reducible exact HS.out.2.1) | (with_reducible exact HS.out.2.2.1) | (with_reducible exact HS.out.2.2.2.1) | (with_reducible exact HS.out.2.2.2.2.1) | (with_reducible exact HS.out.2.2.2.2.2.1) | (with_reducible exact HS.out.2.2.2.2.2.2.1) | (with_reducible exact HS.out.2.2.2.2.2.2.2.1) | (with_reducible exact HS.out.2.2.2.2.2.2.2.2.1) | (with_reducible exact HS.out.2.2.2.2.2.2.2.2.2)))) (fail)
            all_goals go_wp2_with fail
            go_roundw
            case rel =>
              refine ⟨k + 1, ((r0, r1, r2, r3, r4), (s0, s1, s2, s3, s4)), bd, by omega, by go_num, rfl, hide ⟨HOK.out.1, HOK.out.2, rsS_no HST.out hlen HXK.out HRC.out (fun h => absurd h.1 (by omega))⟩, ?_, le_drew (by simp [World.setCell]; omega), (BoxD (Box.far (Box.far (Box.far (Box.far (Box.far (Box.far (Box.far (Box.far (Box.far (Box.far bR _ _ (by simp; try omega)) _ _ (by simp; try omega)) _ _ (by simp; try omega)) _ _ (by simp; try omega)) _ _ (by simp; try omega)) _ _ (by simp; try omega)) _ _ (by simp; try omega)) _ _ (by simp; try omega)) _ _ (by simp; try omega)) _ _ (by simp; try omega))), (BoxD (Box.far (Box.far (Box.far (Box.far (Box.far (Box.put (Box.put (Box.put (Box.put (Box.put bA 0 _ (by simp)) 1 _ (by simp)) 2 _ (by simp)) 3 _ (by simp)) 4 _ (by simp)) _ _ (by simp; try omega)) _ _ (by simp; try omega)) _ _ (by simp; try omega)) _ _ (by simp; try omega)) _ _ (by simp; try omega))), (FzD ((((((((((bAf.set _ _).set _ _).set _ _).set _ _).set _ _).set _ _).set _ _).set _ _).set _ _).set _ _)), (BoxD (Box.put (Box.put (Box.put (Box.put (Box.put (Box.far (Box.far (Box.far (Box.far (Box.far bB _ _ (by simp; try omega)) _ _ (by simp; try omega)) _ _ (by simp; try omega)) _ _ (by simp; try omega)) _ _ (by simp; try omega)) 0 _ (by simp)) 1 _ (by simp)) 2 _ (by simp)) 3 _ (by simp)) 4 _ (by simp))), (FzD ((((((((((bBf.set _ _).set _ _).set _ _).set _ _).set _ _).set _ _).set _ _).set _ _).set _ _).set _ _)), (BoxD (Box.far (Box.far (Box.far (Box.far (Box.far (Box.far (Box.far (Box.far (Box.far (Box.far bP _ _ (by simp; try omega)) _ _ (by simp; try omega)) _ _ (by simp; try omega)) _ _ (by simp; try omega)) _ _ (by simp; try omega)) _ _ (by simp; try omega)) _ _ (by simp; try omega)) _ _ (by simp; try omega)) _ _ (by simp; try omega)) _ _ (by simp; try omega))), (FzD ((((((((((bPf.set _ _).set _ _).set _ _).set _ _).set _ _).set _ _).set _ _).set _ _).set _ _).set _ _)), (BoxD (Box.far (Box.far (Box.far (Box.far (Box.far (Box.far (Box.far (Box.far (Box.far (Box.far bQ _ _ (by simp; try omega)) _ _ (by simp; try omega)) _ _ (by simp; try omega)) _ _ (by simp; try omega)) _ _ (by simp; try omega)) _ _ (by simp; try omega)) _ _ (by simp; try omega)) _ _ (by simp; try omega)) _ _ (by simp; try omega)) _ _ (by simp; try omega))), (FzD ((((((((((bQf.set _ _).set _ _).set _ _).set _ _).set _ _).set _ _).set _ _).set _ _).set _ _).set _ _))⟩
              refine Below.drew ?_
              repeat (with_reducible refine Below.setCell ?_ (by simp; try omega) _)
              exact hB
            case measure => simp [intOf]; omega
        · obtain rfl : k = m := by omega
          have HV := hide (rsV_ok HC.out HL.out (by omega) HST.out)
          clear E0 E1 EA EB HR0 HX0
          have nbA : w.heap.size + 1 < wr.heap.size := by omega
          have lbA_0 := bA 0 _ rfl
          have lbA_1 := bA 1 _ rfl
          have lbA_2 := bA 2 _ rfl
          have lbA_3 := bA 3 _ rfl
          have lbA_4 := bA 4 _ rfl
          have lfbA_0 := bAf 0
          have lfbA_1 := bAf 1
          have lfbA_2 := bAf 2
          have lfbA_3 := bAf 3
          have lfbA_4 := bAf 4
          have nbB : w.heap.size + 2 < wr.heap.size := by omega
          have lbB_0 := bB 0 _ rfl
          have lbB_1 := bB 1 _ rfl
          have lbB_2 := bB 2 _ rfl
          have lbB_3 := bB 3 _ rfl
          have lbB_4 := bB 4 _ rfl
          have lfbB_0 := bBf 0
          have lfbB_1 := bBf 1
          have lfbB_2 := bBf 2
          have lfbB_3 := bBf 3
          have lfbB_4 := bBf 4
          have nbP : w.heap.size + 3 < wr.heap.size := by omega
          have lbP_0 := bP 0 _ rfl
          have lbP_1 := bP 1 _ rfl
          have lbP_2 := bP 2 _ rfl
          have lbP_3 := bP 3 _ rfl
          have lbP_4 := bP 4 _ rfl
          have lfbP_0 := bPf 0
          have lfbP_1 := bPf 1
          have lfbP_2 := bPf 2
          have lfbP_3 := bPf 3
          have lfbP_4 := bPf 4
          have nbQ : w.heap.size + 4 < wr.heap.size := by omega
          have lbQ_0 := bQ 0 _ rfl
          have lbQ_1 := bQ 1 _ rfl
          have lbQ_2 := bQ 2 _ rfl
          have lbQ_3 := bQ 3 _ rfl
          have lbQ_4 := bQ 4 _ rfl
          have lfbQ_0 := bQf 0
          have lfbQ_1 := bQf 1
          have lfbQ_2 := bQf 2
          have lfbQ_3 := bQf 3
          have lfbQ_4 := bQf 4
          go_wp2_with fail
          have HS : Hid (wr.cell? ⟨w.heap.size + 1, 0, none⟩ = some (.int .i64 p0) ∧ wr.cell? ⟨w.heap.size + 1, 1, none⟩ = some (.int .i64 p1) ∧ wr.cell? ⟨w.heap.size + 1, 2, none⟩ = some (.int .i64 p2) ∧ wr.cell? ⟨w.heap.size + 1, 3, none⟩ = some (.int .i64 p3) ∧ wr.cell? ⟨w.heap.size + 1, 4, none⟩ = some (.int .i64 p4) ∧ wr.cell? ⟨w.heap.size + 2, 0, none⟩ = some (.int .i64 q0) ∧ wr.cell? ⟨w.heap.size + 2, 1, none⟩ = some (.int .i64 q1) ∧ wr.cell? ⟨w.heap.size + 2, 2, none⟩ = some (.int .i64 q2) ∧ wr.cell? ⟨w.heap.size + 2, 3, none⟩ = some (.int .i64 q3) ∧ wr.cell? ⟨w.heap.size + 2, 4, none⟩ = some (.int .i64 q4)) := hide ⟨bA 0 _ rfl, bA 1 _ rfl, bA 2 _ rfl, bA 3 _ rfl, bA 4 _ rfl, bB 0 _ rfl, bB 1 _ rfl, bB 2 _ rfl, bB 3 _ rfl, bB 4 _ rfl⟩
          have HD : Hid ((World.drew wr).cell? ⟨w.heap.size + 1, 0, none⟩ = some (.int .i64 p0) ∧ (World.drew wr).cell? ⟨w.heap.size + 1, 1, none⟩ = some (.int .i64 p1) ∧ (World.drew wr).cell? ⟨w.heap.size + 1, 2, none⟩ = some (.int .i64 p2) ∧ (World.drew wr).cell? ⟨w.heap.size + 1, 3, none⟩ = some (.int .i64 p3) ∧ (World.drew wr).cell? ⟨w.heap.size + 1, 4, none⟩ = some (.int .i64 p4) ∧ (World.drew wr).cell? ⟨w.heap.size + 2, 0, none⟩ = some (.int .i64 q0) ∧ (World.drew wr).cell? ⟨w.heap.size + 2, 1, none⟩ = some (.int .i64 q1) ∧ (World.drew wr).cell? ⟨w.heap.size + 2, 2, none⟩ = some (.int .i64 q2) ∧ (World.drew wr).cell? ⟨w.heap.size + 2, 3, none⟩ = some (.int .i64 q3) ∧ (World.drew wr).cell? ⟨w.heap.size + 2, 4, none⟩ = some (.int .i64 q4)) := HS
          go_region_held3 (fun W => W.cell? ⟨w.heap.size + 1, 0, none⟩ = some (.int .i64 p0) ∧ W.cell? ⟨w.heap.size + 1, 1, none⟩ = some (.int .i64 p1) ∧ W.cell? ⟨w.heap.size + 1, 2, none⟩ = some (.int .i64 p2) ∧ W.cell? ⟨w.heap.size + 1, 3, none⟩ = some (.int .i64 p3) ∧ W.cell? ⟨w.heap.size + 1, 4, none⟩ = some (.int .i64 p4) ∧ W.cell? ⟨w.heap.size + 2, 0, none⟩ = some (.int .i64 q0) ∧ W.cell? ⟨w.heap.size + 2, 1, none⟩ = some (.int .i64 q1) ∧ W.cell? ⟨w.heap.size + 2, 2, none⟩ = some (.int .i64 q2) ∧ W.cell? ⟨w.heap.size + 2, 3, none⟩ = some (.int .i64 q3) ∧ W.cell? ⟨w.heap.size + 2, 4, none⟩ = some (.int .i64 q4)) (first | (with_reducible exact HS.out) | (with_reducible exact HD.out) | ((with_reducible refine ⟨?_, ?_, ?_, ?_, ?_, ?_, ?_, ?_, ?_, ?_⟩) <;> ((repeat (first | (with_reducible refine (far5 (by omega)).trans ?_) | (with_reducible refine (far5n (by omega)).trans ?_))); first | (with_reducible exact HS.out.1) | (with_reducible exact HS.out.2.1) | (with_reducible exact HS.out.2.2.1) | (with_reducible exact HS.out.2.2.2.1) | (with_reducible exact HS.out.2.2.2.2.1) | (with_reducible exact HS.out.2.2.2.2.2.1) | (with_reducible exact HS.out.2.2.2.2.2.2.1) | (with_reducible exact HS.out.2.2.2.2.2.2.2.1) | (with_reducible exact HS.out.2.2.2.2.2.2.2.2.1) | (with_reducible exact HS.out.2.2.2.2.2.2.2.2.2)))) (fail)
          all_goals
            go_wp2_with fail
            refine bodyPost_ret (v := .tuple #[.agg #[.int .i64 p0, .int .i64 p1, .int .i64 p2, .int .i64 p3, .int .i64 p4], .agg #[.int .i64 q0, .int .i64 q1, .int .i64 q2, .int .i64 q3, .int .i64 q4], .int .i64 bd, .int .i64 0]) (by simp [results, Tryz.results6, go_sem, lbP_0, lbP_1, lbP_2, lbP_3, lbP_4, lbQ_0, lbQ_1, lbQ_2, lbQ_3, lbQ_4]) rfl ⟨by rw [HV.out], ?_⟩
            repeat (first | with_reducible refine Below.drew ?_ | with_reducible refine Below.setCell ?_ (by simp; try omega) _)
            exact hB
  · skip
    have HV := hide (rsV_bad (L := L) HC.out hz)
    have hz2 : (cc == 0) = false := by simpa using hz
    have hz3 : (cc != 0) = true := by simpa using hz
    go_enter Tryz.func6, Tryz.ntmps6
    go_wp2_with fail
    obtain ⟨W0, hW0⟩ : ∃ W0 : World, W0 = ((((((w.alloc (.cells #[.int .i64 mg, .int .i64 st] 26)).alloc (.cells #[.int .i64 a.1, .int .i64 a.2.1, .int .i64 a.2.2.1, .int .i64 a.2.2.2.1, .int .i64 a.2.2.2.2] 28)).alloc (.cells #[.int .i64 b.1, .int .i64 b.2.1, .int .i64 b.2.2.1, .int .i64 b.2.2.2.1, .int .i64 b.2.2.2.2] 28)).alloc (.cells #[.int .i64 0, .int .i64 0, .int .i64 0, .int .i64 0, .int .i64 0] 28)).alloc (.cells #[.int .i64 0, .int .i64 0, .int .i64 0, .int .i64 0, .int .i64 0] 28)).alloc (.cells #[.int .i64 a.1, .int .i64 a.2.1, .int .i64 a.2.2.1, .int .i64 a.2.2.2.1, .int .i64 a.2.2.2.2, .int .i64 b.1, .int .i64 b.2.1, .int .i64 b.2.2.1, .int .i64 b.2.2.2.1, .int .i64 b.2.2.2.2] 28)) := ⟨_, rfl⟩
    rw [← hW0]
    have bR : Box W0 (w.heap.size) [.int .i64 mg, .int .i64 st] := by rw [hW0]; exact (((((box_at _ _ _ _ (by simp)).alloc (by simp) _).alloc (by simp; try omega) _).alloc (by simp; try omega) _).alloc (by simp; try omega) _).alloc (by simp; try omega) _
    have bA : Box W0 (w.heap.size + 1) [.int .i64 a.1, .int .i64 a.2.1, .int .i64 a.2.2.1, .int .i64 a.2.2.2.1, .int .i64 a.2.2.2.2] := by rw [hW0]; exact ((((box_at _ _ _ _ (by simp)).alloc (by simp) _).alloc (by simp; try omega) _).alloc (by simp; try omega) _).alloc (by simp; try omega) _
    have bAf : Fz W0 (w.heap.size + 1) := by rw [hW0]; exact ((((fz_at _ _ _ _ (by simp)).alloc (by simp) _).alloc (by simp; try omega) _).alloc (by simp; try omega) _).alloc (by simp; try omega) _
    have bB : Box W0 (w.heap.size + 2) [.int .i64 b.1, .int .i64 b.2.1, .int .i64 b.2.2.1, .int .i64 b.2.2.2.1, .int .i64 b.2.2.2.2] := by rw [hW0]; exact (((box_at _ _ _ _ (by simp)).alloc (by simp) _).alloc (by simp; try omega) _).alloc (by simp; try omega) _
    have bBf : Fz W0 (w.heap.size + 2) := by rw [hW0]; exact (((fz_at _ _ _ _ (by simp)).alloc (by simp) _).alloc (by simp; try omega) _).alloc (by simp; try omega) _
    have bP : Box W0 (w.heap.size + 3) [.int .i64 0, .int .i64 0, .int .i64 0, .int .i64 0, .int .i64 0] := by rw [hW0]; exact ((box_at _ _ _ _ (by simp)).alloc (by simp) _).alloc (by simp; try omega) _
    have bPf : Fz W0 (w.heap.size + 3) := by rw [hW0]; exact ((fz_at _ _ _ _ (by simp)).alloc (by simp) _).alloc (by simp; try omega) _
    have bQ : Box W0 (w.heap.size + 4) [.int .i64 0, .int .i64 0, .int .i64 0, .int .i64 0, .int .i64 0] := by rw [hW0]; exact (box_at _ _ _ _ (by simp)).alloc (by simp) _
    have bQf : Fz W0 (w.heap.size + 4) := by rw [hW0]; exact (fz_at _ _ _ _ (by simp)).alloc (by simp) _
    have bL : Box W0 (w.heap.size + 5) [.int .i64 a.1, .int .i64 a.2.1, .int .i64 a.2.2.1, .int .i64 a.2.2.2.1, .int .i64 a.2.2.2.2, .int .i64 b.1, .int .i64 b.2.1, .int .i64 b.2.2.1, .int .i64 b.2.2.2.1, .int .i64 b.2.2.2.2] := by rw [hW0]; exact box_at _ _ _ _ (by simp)
    have hL : Rd W0 (w.heap.size + 5) (w.heap.size + 5 + 1) 5 (some ⟨w.heap.size + 5, 0, none⟩) 2 (rCtl [a, b]) := by rw [hW0]; exact rd_new _ _ _ 2 5 rfl _ rfl _ (by simp)
    have hB : Below w.heap.size w W0 := by rw [hW0]; exact (by repeat (first | exact Below.refl _ _ | refine Below.drew ?_ | refine Below.alloc ?_ (by first | (simp; done) | (simp; omega)) _))
    have hs0 : w.heap.size + 6 ≤ W0.heap.size := by rw [hW0]; first | (simp; done) | (simp; omega)
    clear hW0
    replace hr := hr.below hB (by omega)
    refine (controlCode_any A n c lo hi T hm mg st _ 2 2 (w.heap.size + 5) (w.heap.size + 5 + 1) [a, b] rfl (by omega) _ hr (by omega) hL (by omega)).mono ?_
    rintro e w1 ⟨rfl, hb⟩
    have hbb : Below W0.heap.size W0 w1 := Below.trans (by repeat (first | exact Below.refl _ _ | refine Below.drew ?_ | refine Below.alloc ?_ (by first | (simp; done) | (simp; omega)) _)) (Below.mono hb (by simp))
    clear hb
    have hs1 := hbb.size
    replace hr := hr.below hbb (by omega)
    replace hL := hL.below hbb (by omega)
    replace bR := bR.below hbb (by omega)
    replace bA := bA.below hbb (by omega)
    replace bAf := bAf.below hbb (by omega)
    replace bB := bB.below hbb (by omega)
    replace bBf := bBf.below hbb (by omega)
    replace bP := bP.below hbb (by omega)
    replace bPf := bPf.below hbb (by omega)
    replace bQ := bQ.below hbb (by omega)
    replace bQf := bQf.below hbb (by omega)
    replace bL := bL.below hbb (by omega)
    replace hB := hB.trans (hbb.mono (by omega))
    clear hbb
    rw [HC.out]
    clear hL
    clear bL
    have nbP : w.heap.size + 3 < w1.heap.size := by omega
    have lbP_0 := bP 0 _ rfl
    have lbP_1 := bP 1 _ rfl
    have lbP_2 := bP 2 _ rfl
    have lbP_3 := bP 3 _ rfl
    have lbP_4 := bP 4 _ rfl
    have lfbP_0 := bPf 0
    have lfbP_1 := bPf 1
    have lfbP_2 := bPf 2
    have lfbP_3 := bPf 3
    have lfbP_4 := bPf 4
    have nbQ : w.heap.size + 4 < w1.heap.size := by omega
    have lbQ_0 := bQ 0 _ rfl
    have lbQ_1 := bQ 1 _ rfl
    have lbQ_2 := bQ 2 _ rfl
    have lbQ_3 := bQ 3 _ rfl
    have lbQ_4 := bQ 4 _ rfl
    have lfbQ_0 := bQf 0
    have lfbQ_1 := bQf 1
    have lfbQ_2 := bQf 2
    have lfbQ_3 := bQf 3
    have lfbQ_4 := bQf 4
    go_wp2_with fail
    refine bodyPost_ret (v := .tuple #[.agg #[.int .i64 0, .int .i64 0, .int .i64 0, .int .i64 0, .int .i64 0], .agg #[.int .i64 0, .int .i64 0, .int .i64 0, .int .i64 0, .int .i64 0], .int .i64 0, .int .i64 cc]) (by simp [results, Tryz.results6, go_sem, lbP_0, lbP_1, lbP_2, lbP_3, lbP_4, lbQ_0, lbQ_1, lbQ_2, lbQ_3, lbQ_4]) rfl ⟨by rw [HV.out], ?_⟩
    repeat (first | with_reducible refine Below.drew ?_ | with_reducible refine Below.setCell ?_ (by simp; try omega) _)
    exact hB

end Go.Proofs.YtnbahmjimnhfbaaGreatDoor
