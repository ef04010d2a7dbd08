/-
  HeaviestAt: the reference's and the program's. No condition but those that each theorem names.
-/
import Derived.Test.YtmpccakgpahpoaaPl
import Derived.Test.YtmpccakgpahpoaaNamed
namespace Go.Proofs.Ytmpccakgpahpoaa
open Go.RowKit
set_option linter.unusedVariables false

/-- The load of a crane at a place, or -1. -/
def ldX (c : Crn) (x y : Int) : Int := ldI c.ch (rt (sqD c.x c.y x y))
theorem ldX_bd {c : Crn} (h : crB c = true) (x y : Int) : -1 ≤ ldX c x y ∧ ldX c x y ≤ 50000 := ldI_bd (crB_true h).2.2.2.2.2.1 _
/-- The crane that bears most and its load, of the first k cranes. -/
def hvS (l : List Crn) (x y : Int) : Nat → Int × Int
  | 0 => (-1, -1)
  | k + 1 => if (hvS l x y k).2 < ldX (l.getD k crZ) x y then ((k : Int), ldX (l.getD k crZ) x y) else hvS l x y k
theorem hvS_yes {l : List Crn} {x y : Int} {k : Nat} (hk : k < l.length) (h : (hvS l x y k).2 < ldX l[k] x y) : hvS l x y (k + 1) = ((k : Int), ldX l[k] x y) := by rw [← getC hk] at h ⊢; exact if_pos h
theorem hvS_no {l : List Crn} {x y : Int} {k : Nat} (hk : k < l.length) (h : ¬ (hvS l x y k).2 < ldX l[k] x y) : hvS l x y (k + 1) = hvS l x y k := by rw [← getC hk] at h; exact if_neg h
theorem hvS_bd {l : List Crn} (h : siteB l = true) (x y : Int) : ∀ k, k ≤ l.length → -1 ≤ (hvS l x y k).1 ∧ (hvS l x y k).1 < l.length ∧ -1 ≤ (hvS l x y k).2 ∧ (hvS l x y k).2 ≤ 50000
  | 0, _ => by show (-1 : Int) ≤ -1 ∧ (-1 : Int) < _ ∧ (-1 : Int) ≤ -1 ∧ (-1 : Int) ≤ 50000; omega
  | k + 1, hk => by
    have hr := hvS_bd h x y k (by omega)
    have hb := ldX_bd ((siteB_cr h).1 _ (List.getElem_mem (show k < l.length by omega))) x y
    by_cases hc : (hvS l x y k).2 < ldX (l[k]'(by omega)) x y
    · rw [hvS_yes (by omega) hc]; show -1 ≤ (k : Int) ∧ (k : Int) < _ ∧ _ ∧ _; omega
    · rw [hvS_no (by omega) hc]; omega
def hvR (l : List Crn) (x y : Int) : Int × Int × Int := if siteB l = true ∧ plB x y = true then (if (hvS l x y l.length).1 < 0 then (0, 0, 3) else ((hvS l x y l.length).1, (hvS l x y l.length).2, 0)) else (0, 0, 1)
theorem ret3 {a b c : Int} {p : Int × Int × Int} (h : p = (a, b, c)) : Ending.returned (.tuple #[.int .i64 a, .int .i64 b, .int .i64 c]) = .returned (.tuple #[.int .i64 p.1, .int .i64 p.2.1, .int .i64 p.2.2]) := by rw [h]

set_option maxRecDepth 100000 in
set_option maxHeartbeats 2000000 in
theorem l04Load_is {b o : Nat} {cx cy x y v : Int} {Ai : Option Addr} {ni ci lo hi : Nat} {ch : Chr} (hc : plB cx cy = true) (hp : plB x y = true) (hch : chB ch = true) (hni : ch.length = ni) (hv : ldI ch (rt (sqD cx cy x y)) = v) {w : World} (hb : b < w.heap.size) (c1 : w.cell? ⟨b, o + 1, none⟩ = some (.int .i64 cx)) (c2 : w.cell? ⟨b, o + 2, none⟩ = some (.int .i64 cy)) (c6 : w.cell? ⟨b, o + 6, none⟩ = some (.slice Ai ni ci)) (h : Rd w lo hi 2 Ai ni (rChartStep ch)) (hhi : hi ≤ w.heap.size) :
    Calls Try.prog 67 #[.pointer (some ⟨b, o, none⟩), .agg #[.int .i64 x, .int .i64 y]] w fun e w' => e = .returned (.int .i64 v) ∧ Below w.heap.size w w' := by
  subst hv; exact l04Load_any b o cx cy x y Ai ni ci lo hi ch hc hp hch hni w hb c1 c2 c6 h hhi

set_option maxRecDepth 100000 in
set_option maxHeartbeats 2000000 in
theorem loadAtPlace_is {nm : ByteArray} {cx cy hh jj bb x y v : Int} {Ai : Option Addr} {ni ci lo hi : Nat} {ch : Chr} (hc : plB cx cy = true) (hp : plB x y = true) (hch : chB ch = true) (hni : ch.length = ni) (hv : ldI ch (rt (sqD cx cy x y)) = v) {w : World} (h : Rd w lo hi 2 Ai ni (rChartStep ch)) (hhi : hi ≤ w.heap.size) :
    Calls Try.prog 69 #[.agg #[.string nm, .int .i64 cx, .int .i64 cy, .int .i64 hh, .int .i64 jj, .int .i64 bb, .slice Ai ni ci], .agg #[.int .i64 x, .int .i64 y]] w fun e w' => e = .returned (.tuple #[.int .i64 (ldV v), .bool (ldK v)]) ∧ Below w.heap.size w w' := by
  subst hv; exact loadAtPlace_any nm cx cy hh jj bb x y Ai ni ci lo hi ch hc hp hch hni w h hhi

set_option maxRecDepth 100000 in
set_option maxHeartbeats 2000000 in
theorem specHeaviestAt_any (A : Option Addr) (n c lo hi : Nat) (own : Bool) (l : List Crn) (hn : n ≤ 1048576) (hch : ∀ p ∈ l, p.ch.length ≤ 1048576) (hnm : ∀ p ∈ l, p.nm.size ≤ maxLen) (w : World) (h : RdC w lo hi own A n l) (hhi : hi ≤ w.heap.size) (x y : Int) :
    Calls Try.prog 30 #[.agg #[.slice A n c], .agg #[.int .i64 x, .int .i64 y]] w fun e w' => e = .returned (.tuple #[.int .i64 (hvR l x y).1, .int .i64 (hvR l x y).2.1, .int .i64 (hvR l x y).2.2]) ∧ Below w.heap.size w w' := by
  have h' := h.length
  have HCH := hide hch
  have HNM := hide hnm
  clear hch hnm
  obtain ⟨W1, hW1⟩ : ∃ W1 : World, (w.alloc (.cells #[.slice A n c] 36)) = W1 := ⟨_, rfl⟩
  obtain ⟨W0, hW0⟩ : ∃ W0 : World, W1.alloc (.cells #[.int .i64 x, .int .i64 y] 56) = W0 := ⟨_, rfl⟩
  have hb01 : Below w.heap.size w W1 := by rw [← hW1]; exact (Below.refl _ _).alloc (Nat.le_refl _) _
  have hz1 : W1.heap.size = w.heap.size + 1 := by rw [← hW1]; simp
  have hb10 : Below W1.heap.size W1 W0 := by rw [← hW0]; exact (Below.refl _ _).alloc (Nat.le_refl _) _
  have hz0 : W0.heap.size = W1.heap.size + 1 := by rw [← hW0]; simp
  have hb0 : Below w.heap.size w W0 := hb01.trans (hb10.mono (by omega))
  obtain ⟨bs, hbs⟩ : ∃ bs, w.heap.size = bs := ⟨_, rfl⟩
  have hbp : W1.heap.size = bs + 1 := by omega
  have HC0 : Hid (W0.cell? ⟨bs, 0, none⟩ = some (.slice A n c)) := hide (by rw [hb10.cell (p := ⟨bs, 0, none⟩) (by show bs < _; omega), ← hW1, ← hbs]; exact new_cell _ _ _ 0)
  have HP0 : Hid (W0.cell? ⟨bs + 1, 0, none⟩ = some (.int .i64 x)) := hide (by rw [← hW0, ← hbp]; exact new_cell _ _ _ 0)
  have HP1 : Hid (W0.cell? ⟨bs + 1, 1, none⟩ = some (.int .i64 y)) := hide (by rw [← hW0, ← hbp]; exact new_cell _ _ _ 1)
  have HW0 := hide hW0
  have HW1 := hide hW1
  have HR0 := hide (h.below hb0 hhi)
  have hh0 : hi ≤ W0.heap.size := by omega
  have hbs' : bs < W0.heap.size := by omega
  have hbp' : bs + 1 < W0.heap.size := by omega
  clear h hW0 hW1
  cases e1 : siteB l
  case false =>
    have E : Hid (hvR l x y = (0, 0, 1)) := hide (by simp [hvR, e1])
    go_enter Try.func30, Try.ntmps30
    skip
    go_wp2_with fail
    rw [HW1.out]
    rw [HW0.out]
    try rw [hbs]
    refine (l04Site_any bs 0 A n c lo hi own l hn HCH.out HNM.out _ hbs' HC0.out HR0.out hh0).mono ?_
    rintro e w1 ⟨rfl, hb1⟩
    have hs1 := hb1.size
    have q0 := (hb1.cell (p := ⟨bs, 0, none⟩) hbs').trans HC0.out
    have q1 := (hb1.cell (p := ⟨bs + 1, 0, none⟩) hbp').trans HP0.out
    have q2 := (hb1.cell (p := ⟨bs + 1, 1, none⟩) hbp').trans HP1.out
    rw [e1]
    go_wp2_with fail
    go_ret3
    exact ⟨ret3 E.out, hb0.trans (hb1.mono (by omega))⟩
  cases e2 : plB x y
  case false =>
    have E : Hid (hvR l x y = (0, 0, 1)) := hide (by simp [hvR, e2])
    go_enter Try.func30, Try.ntmps30
    skip
    go_wp2_with fail
    rw [HW1.out]
    rw [HW0.out]
    try rw [hbs]
    refine (l04Site_any bs 0 A n c lo hi own l hn HCH.out HNM.out _ hbs' HC0.out HR0.out hh0).mono ?_
    rintro e w1 ⟨rfl, hb1⟩
    have hs1 := hb1.size
    have q0 := (hb1.cell (p := ⟨bs, 0, none⟩) hbs').trans HC0.out
    have q1 := (hb1.cell (p := ⟨bs + 1, 0, none⟩) hbp').trans HP0.out
    have q2 := (hb1.cell (p := ⟨bs + 1, 1, none⟩) hbp').trans HP1.out
    rw [e1]
    go_wp2_with fail
    refine (l02Ok_is e2).mono ?_
    rintro e w2 ⟨rfl, hb2⟩
    have hb2 : Below W0.heap.size W0 w2 := hb1.trans (hb2.mono hs1)
    have hs2 := hb2.size
    clear q0 q1 q2
    have q0 := (hb2.cell (p := ⟨bs, 0, none⟩) hbs').trans HC0.out
    have q1 := (hb2.cell (p := ⟨bs + 1, 0, none⟩) hbp').trans HP0.out
    have q2 := (hb2.cell (p := ⟨bs + 1, 1, none⟩) hbp').trans HP1.out
    go_wp2_with fail
    go_ret3
    exact ⟨ret3 E.out, hb0.trans (hb2.mono (by omega))⟩
  have HVB := hide (hvS_bd e1 x y)
  have HLEN := hide h'
  have HCR := hide (siteB_cr e1).1
  have hl6 := (siteB_cr e1).2.2
  rw [h'] at hl6
  have HER : Hid (hvR l x y = if (hvS l x y n).1 < 0 then (0, 0, 3) else ((hvS l x y n).1, (hvS l x y n).2, 0)) := hide (by unfold hvR; rw [if_pos ⟨e1, e2⟩, h'])
  have HPL := hide e2
  clear h'
  go_enter Try.func30, Try.ntmps30
  skip
  go_wp2_with fail
  rw [HW1.out]
  rw [HW0.out]
  try rw [hbs]
  refine (l04Site_any bs 0 A n c lo hi own l hn HCH.out HNM.out _ hbs' HC0.out HR0.out hh0).mono ?_
  rintro e w1 ⟨rfl, hb1⟩
  have hs1 := hb1.size
  have q0 := (hb1.cell (p := ⟨bs, 0, none⟩) hbs').trans HC0.out
  have q1 := (hb1.cell (p := ⟨bs + 1, 0, none⟩) hbp').trans HP0.out
  have q2 := (hb1.cell (p := ⟨bs + 1, 1, none⟩) hbp').trans HP1.out
  rw [e1]
  go_wp2_with fail
  refine (l02Ok_is e2).mono ?_
  rintro e w2 ⟨rfl, hb2⟩
  have hb2 : Below W0.heap.size W0 w2 := hb1.trans (hb2.mono hs1)
  have hs2 := hb2.size
  clear q0 q1 q2
  have q0 := (hb2.cell (p := ⟨bs, 0, none⟩) hbs').trans HC0.out
  have q1 := (hb2.cell (p := ⟨bs + 1, 0, none⟩) hbp').trans HP0.out
  have q2 := (hb2.cell (p := ⟨bs + 1, 1, none⟩) hbp').trans HP1.out
  go_wp2_with fail
  go_loopw [7, 8, 9] (fun bb mm ii wr => ∃ i : Nat, i ≤ n ∧ bb = .int .i64 (hvS l x y i).1 ∧ mm = .int .i64 (hvS l x y i).2 ∧ ii = .int .i64 i ∧ Below W0.heap.size W0 wr) (fun _ _ ii _ => n - (intOf ii).toNat)
  case atStart => exact ⟨0, by omega, rfl, rfl, rfl, hb2⟩
  case round =>
    clear q0 q1 q2
    obtain ⟨i, hi', rfl, rfl, rfl, hbr⟩ := hrel
    have hsz := hbr.size
    have q0 := (hbr.cell (p := ⟨bs, 0, none⟩) hbs').trans HC0.out
    have q1 := (hbr.cell (p := ⟨bs + 1, 0, none⟩) hbp').trans HP0.out
    have q2 := (hbr.cell (p := ⟨bs + 1, 1, none⟩) hbp').trans HP1.out
    by_cases hlt : i < n
    · skip
      have hil : i < l.length := by rw [HLEN.out]; exact hlt
      obtain ⟨b, off, Ai, ci, hA, hb1', hb2', c0, c1, c2, c3, c4, c5, c6, hcm, hrd⟩ := (HR0.out.below hbr hh0).at_ hil
      subst hA
      have HRD := hide hrd
      clear hrd
      have hbw : b < wr.heap.size := by omega
      have hhr : hi ≤ wr.heap.size := by omega
      have hbsw : bs < wr.heap.size := by omega
      have hbpw : bs + 1 < wr.heap.size := by omega
      have HC := HCR.out _ (List.getElem_mem hil)
      have HB := ldX_bd HC x y
      have HPC : Hid (plB l[i].x l[i].y = true) := hide (crB_true HC).2.1
      have HCHB : Hid (chB l[i].ch = true) := hide (crB_true HC).2.2.2.2.2.1
      clear HC
      obtain ⟨p1, p2, p3, p4⟩ := HVB.out i (by omega)
      rw [HLEN.out] at p2
      have HY := hide (hvS_yes (x := x) (y := y) hil)
      have HN := hide (hvS_no (x := x) (y := y) hil)
      obtain ⟨v, hv⟩ : ∃ v, ldX l[i] x y = v := ⟨_, rfl⟩
      have HV : Hid (ldI l[i].ch (rt (sqD l[i].x l[i].y x y)) = v) := hide hv
      rw [hv] at HY HN HB
      clear hv
      obtain ⟨⟨p, q⟩, hpq⟩ : ∃ p : Int × Int, hvS l x y i = p := ⟨_, rfl⟩
      rw [hpq] at HY HN p1 p2 p3 p4 ⊢
      clear hpq
      simp only at HY HN p1 p2 p3 p4 ⊢
      have z0 : (0 : Int) ≤ (i : Int) := by omega
      have z1 : (i : Int) < (n : Int) := by omega
      obtain ⟨ni, hni⟩ : ∃ ni, l[i].ch.length = ni := ⟨_, rfl⟩
      have HNI := hide hni
      rw [hni] at c6 hcm HRD
      clear hni
      generalize l[i].ch = ch at *
      generalize l[i].nm = nm at *
      generalize l[i].x = cx at *
      generalize l[i].y = cy at *
      generalize l[i].h = hh at *
      generalize l[i].j = jj at *
      generalize l[i].b = bb at *
      have HSS : Hid ((World.drew wr).cell? ⟨bs, 0, none⟩ = some (.slice (some ⟨b, off, none⟩) n c) ∧ (World.drew wr).cell? ⟨bs + 1, 0, none⟩ = some (.int .i64 x) ∧ (World.drew wr).cell? ⟨bs + 1, 1, none⟩ = some (.int .i64 y) ∧ (World.drew wr).cell? ⟨b, off + i * 7 + 1, none⟩ = some (.int .i64 cx) ∧ (World.drew wr).cell? ⟨b, off + i * 7 + 2, none⟩ = some (.int .i64 cy) ∧ (World.drew wr).cell? ⟨b, off + i * 7 + 6, none⟩ = some (.slice Ai ni ci)) := hide ⟨q0, q1, q2, c1, c2, c6⟩
      have hbd : b < (World.drew wr).heap.size := hbw
      have hhd : hi ≤ (World.drew wr).heap.size := hhr
      have HRDD : Hid (Rd (World.drew wr) lo hi 2 Ai ni (rChartStep ch)) := hide (HRD.out.below ((Below.refl wr.heap.size wr).trans (Joins.below_draws _ _ 1 : Below wr.heap.size wr (World.drew wr))) hhr)
      go_wp2_with fail
      clear q0 q1 q2 c0 c1 c2 c3 c4 c5 c6
      go_region_held3 (fun W => W.cell? ⟨bs, 0, none⟩ = some (.slice (some ⟨b, off, none⟩) n c) ∧ W.cell? ⟨bs + 1, 0, none⟩ = some (.int .i64 x) ∧ W.cell? ⟨bs + 1, 1, none⟩ = some (.int .i64 y) ∧ W.cell? ⟨b, off + i * 7 + 1, none⟩ = some (.int .i64 cx) ∧ W.cell? ⟨b, off + i * 7 + 2, none⟩ = some (.int .i64 cy) ∧ W.cell? ⟨b, off + i * 7 + 6, none⟩ = some (.slice Ai ni ci)) (with_reducible exact HSS.out) (first | (go_at_call 67; (with_reducible refine (l04Load_is HPC.out HPL.out HCHB.out HNI.out HV.out hbd HSS.out.2.2.2.1 HSS.out.2.2.2.2.1 HSS.out.2.2.2.2.2 HRDD.out hhd).mono ?_); rintro e w3 ⟨rfl, hq3⟩; have hz3 : wr.heap.size ≤ w3.heap.size := hq3.size; have HSS : Hid (w3.cell? ⟨bs, 0, none⟩ = some (.slice (some ⟨b, off, none⟩) n c) ∧ w3.cell? ⟨bs + 1, 0, none⟩ = some (.int .i64 x) ∧ w3.cell? ⟨bs + 1, 1, none⟩ = some (.int .i64 y) ∧ w3.cell? ⟨b, off + i * 7 + 1, none⟩ = some (.int .i64 cx) ∧ w3.cell? ⟨b, off + i * 7 + 2, none⟩ = some (.int .i64 cy) ∧ w3.cell? ⟨b, off + i * 7 + 6, none⟩ = some (.slice Ai ni ci)) := hide ⟨(hq3.cell (p := ⟨bs, 0, none⟩) (by show bs < wr.heap.size; omega)).trans HSS.out.1, (hq3.cell (p := ⟨bs + 1, 0, none⟩) (by show bs + 1 < wr.heap.size; omega)).trans HSS.out.2.1, (hq3.cell (p := ⟨bs + 1, 1, none⟩) (by show bs + 1 < wr.heap.size; omega)).trans HSS.out.2.2.1, (hq3.cell (p := ⟨b, off + i * 7 + 1, none⟩) (by show b < wr.heap.size; omega)).trans HSS.out.2.2.2.1, (hq3.cell (p := ⟨b, off + i * 7 + 2, none⟩) (by show b < wr.heap.size; omega)).trans HSS.out.2.2.2.2.1, (hq3.cell (p := ⟨b, off + i * 7 + 6, none⟩) (by show b < wr.heap.size; omega)).trans HSS.out.2.2.2.2.2⟩))
      have hbz : Below W0.heap.size W0 w3 := hbr.trans (((Joins.below_draws _ _ 1 : Below wr.heap.size wr (World.drew wr)).trans hq3).mono hsz)
      by_cases hgt : q < v
      · skip
        have E1 : Hid ((hvS l x y (i + 1)).1 = (i : Int)) := hide (by rw [HY.out hgt])
        have E2 : Hid ((hvS l x y (i + 1)).2 = v) := hide (by rw [HY.out hgt])
        clear HY HN
        go_wp2_with fail
        go_roundw
        case rel => exact ⟨i + 1, by omega, by rw [E1.out], by rw [E2.out], by go_num, hbz⟩
        case measure => simp [intOf]; omega
      · skip
        have E1 : Hid ((hvS l x y (i + 1)).1 = p) := hide (by rw [HN.out (by omega)])
        have E2 : Hid ((hvS l x y (i + 1)).2 = q) := hide (by rw [HN.out (by omega)])
        clear HY HN
        go_wp2_with fail
        go_roundw
        case rel => exact ⟨i + 1, by omega, by rw [E1.out], by rw [E2.out], by go_num, hbz⟩
        case measure => simp [intOf]; omega
    · obtain rfl : i = n := by omega
      obtain ⟨p1, p2, p3, p4⟩ := HVB.out i (by rw [HLEN.out]; omega)
      rw [HLEN.out] at p2
      obtain ⟨⟨p, q⟩, hpq⟩ : ∃ p : Int × Int, hvS l x y i = p := ⟨_, rfl⟩
      rw [hpq] at HER p1 p2 p3 p4 ⊢
      simp only at HER p1 p2 p3 p4 ⊢
      clear hpq
      by_cases hneg : p < 0
      · have E : Hid (hvR l x y = (0, 0, 3)) := hide (by rw [HER.out, if_pos hneg])
        clear HER
        go_wp2_with fail
        go_ret3
        exact ⟨ret3 E.out, by first | exact hb0.trans (hbr.mono (by omega)) | (rw [← hbs]; exact hb0.trans (hbr.mono (by omega)))⟩
      · have E : Hid (hvR l x y = (p, q, 0)) := hide (by rw [HER.out, if_neg hneg])
        clear HER
        go_wp2_with fail
        go_ret3
        exact ⟨ret3 E.out, by first | exact hb0.trans (hbr.mono (by omega)) | (rw [← hbs]; exact hb0.trans (hbr.mono (by omega)))⟩

set_option maxRecDepth 100000 in
set_option maxHeartbeats 2000000 in
theorem implHeaviestAt_any (A : Option Addr) (n c lo hi : Nat) (own : Bool) (l : List Crn) (hn : n ≤ 1048576) (hch : ∀ p ∈ l, p.ch.length ≤ 1048576) (hnm : ∀ p ∈ l, p.nm.size ≤ maxLen) (w : World) (h : RdC w lo hi own A n l) (hhi : hi ≤ w.heap.size) (x y : Int) (hnc : n ≤ c) :
    Calls Try.prog 32 #[.agg #[.slice A n c], .agg #[.int .i64 x, .int .i64 y]] w fun e w' => e = .returned (.tuple #[.int .i64 (hvR l x y).1, .int .i64 (hvR l x y).2.1, .int .i64 (hvR l x y).2.2]) ∧ Below w.heap.size w w' := by
  have h' := h.length
  have HCH := hide hch
  have HNM := hide hnm
  clear hch hnm
  obtain ⟨W1, hW1⟩ : ∃ W1 : World, (w.alloc (.cells #[.slice A n c] 36)) = W1 := ⟨_, rfl⟩
  obtain ⟨W0, hW0⟩ : ∃ W0 : World, W1.alloc (.cells #[.int .i64 x, .int .i64 y] 56) = W0 := ⟨_, rfl⟩
  have hb01 : Below w.heap.size w W1 := by rw [← hW1]; exact (Below.refl _ _).alloc (Nat.le_refl _) _
  have hz1 : W1.heap.size = w.heap.size + 1 := by rw [← hW1]; simp
  have hb10 : Below W1.heap.size W1 W0 := by rw [← hW0]; exact (Below.refl _ _).alloc (Nat.le_refl _) _
  have hz0 : W0.heap.size = W1.heap.size + 1 := by rw [← hW0]; simp
  have hb0 : Below w.heap.size w W0 := hb01.trans (hb10.mono (by omega))
  obtain ⟨bs, hbs⟩ : ∃ bs, w.heap.size = bs := ⟨_, rfl⟩
  have hbp : W1.heap.size = bs + 1 := by omega
  have HC0 : Hid (W0.cell? ⟨bs, 0, none⟩ = some (.slice A n c)) := hide (by rw [hb10.cell (p := ⟨bs, 0, none⟩) (by show bs < _; omega), ← hW1, ← hbs]; exact new_cell _ _ _ 0)
  have HP0 : Hid (W0.cell? ⟨bs + 1, 0, none⟩ = some (.int .i64 x)) := hide (by rw [← hW0, ← hbp]; exact new_cell _ _ _ 0)
  have HP1 : Hid (W0.cell? ⟨bs + 1, 1, none⟩ = some (.int .i64 y)) := hide (by rw [← hW0, ← hbp]; exact new_cell _ _ _ 1)
  have HW0 := hide hW0
  have HW1 := hide hW1
  have HR0 := hide (h.below hb0 hhi)
  have hh0 : hi ≤ W0.heap.size := by omega
  have hbs' : bs < W0.heap.size := by omega
  have hbp' : bs + 1 < W0.heap.size := by omega
  clear h hW0 hW1
  cases e1 : siteB l
  case false =>
    have E : Hid (hvR l x y = (0, 0, 1)) := hide (by simp [hvR, e1])
    go_enter Try.func32, Try.ntmps32
    skip
    go_wp2_with fail
    rw [HW1.out]
    rw [HW0.out]
    try rw [hbs]
    refine (implValidSite_any A n c lo hi own l hn HCH.out HNM.out _ HR0.out hh0 hnc).mono ?_
    rintro e w1 ⟨rfl, hb1⟩
    have hs1 := hb1.size
    have q0 := (hb1.cell (p := ⟨bs, 0, none⟩) hbs').trans HC0.out
    have q1 := (hb1.cell (p := ⟨bs + 1, 0, none⟩) hbp').trans HP0.out
    have q2 := (hb1.cell (p := ⟨bs + 1, 1, none⟩) hbp').trans HP1.out
    rw [e1]
    go_wp2_with fail
    go_ret3
    exact ⟨ret3 E.out, hb0.trans (hb1.mono (by omega))⟩
  cases e2 : plB x y
  case false =>
    have E : Hid (hvR l x y = (0, 0, 1)) := hide (by simp [hvR, e2])
    go_enter Try.func32, Try.ntmps32
    skip
    go_wp2_with fail
    rw [HW1.out]
    rw [HW0.out]
    try rw [hbs]
    refine (implValidSite_any A n c lo hi own l hn HCH.out HNM.out _ HR0.out hh0 hnc).mono ?_
    rintro e w1 ⟨rfl, hb1⟩
    have hs1 := hb1.size
    have q0 := (hb1.cell (p := ⟨bs, 0, none⟩) hbs').trans HC0.out
    have q1 := (hb1.cell (p := ⟨bs + 1, 0, none⟩) hbp').trans HP0.out
    have q2 := (hb1.cell (p := ⟨bs + 1, 1, none⟩) hbp').trans HP1.out
    rw [e1]
    go_wp2_with fail
    refine (implValidPlace_is e2).mono ?_
    rintro e w2 ⟨rfl, hb2⟩
    have hb2 : Below W0.heap.size W0 w2 := hb1.trans (hb2.mono hs1)
    have hs2 := hb2.size
    clear q0 q1 q2
    have q0 := (hb2.cell (p := ⟨bs, 0, none⟩) hbs').trans HC0.out
    have q1 := (hb2.cell (p := ⟨bs + 1, 0, none⟩) hbp').trans HP0.out
    have q2 := (hb2.cell (p := ⟨bs + 1, 1, none⟩) hbp').trans HP1.out
    go_wp2_with fail
    go_ret3
    exact ⟨ret3 E.out, hb0.trans (hb2.mono (by omega))⟩
  have HVB := hide (hvS_bd e1 x y)
  have HLEN := hide h'
  have HCR := hide (siteB_cr e1).1
  have hl6 := (siteB_cr e1).2.2
  rw [h'] at hl6
  have HER : Hid (hvR l x y = if (hvS l x y n).1 < 0 then (0, 0, 3) else ((hvS l x y n).1, (hvS l x y n).2, 0)) := hide (by unfold hvR; rw [if_pos ⟨e1, e2⟩, h'])
  have HPL := hide e2
  clear h'
  go_enter Try.func32, Try.ntmps32
  skip
  go_wp2_with fail
  rw [HW1.out]
  rw [HW0.out]
  try rw [hbs]
  refine (implValidSite_any A n c lo hi own l hn HCH.out HNM.out _ HR0.out hh0 hnc).mono ?_
  rintro e w1 ⟨rfl, hb1⟩
  have hs1 := hb1.size
  have q0 := (hb1.cell (p := ⟨bs, 0, none⟩) hbs').trans HC0.out
  have q1 := (hb1.cell (p := ⟨bs + 1, 0, none⟩) hbp').trans HP0.out
  have q2 := (hb1.cell (p := ⟨bs + 1, 1, none⟩) hbp').trans HP1.out
  rw [e1]
  go_wp2_with fail
  refine (implValidPlace_is e2).mono ?_
  rintro e w2 ⟨rfl, hb2⟩
  have hb2 : Below W0.heap.size W0 w2 := hb1.trans (hb2.mono hs1)
  have hs2 := hb2.size
  clear q0 q1 q2
  have q0 := (hb2.cell (p := ⟨bs, 0, none⟩) hbs').trans HC0.out
  have q1 := (hb2.cell (p := ⟨bs + 1, 0, none⟩) hbp').trans HP0.out
  have q2 := (hb2.cell (p := ⟨bs + 1, 1, none⟩) hbp').trans HP1.out
  go_wp2_with fail
  go_loopw [7, 8, 24] (fun bb mm ii wr => ∃ i : Nat, i ≤ n ∧ bb = .int .i64 (hvS l x y i).1 ∧ mm = .int .i64 (hvS l x y i).2 ∧ ii = .int .i64 i ∧ Below W0.heap.size W0 wr) (fun _ _ ii _ => n - (intOf ii).toNat)
  case atStart => exact ⟨0, by omega, rfl, rfl, rfl, hb2⟩
  case round =>
    clear q0 q1 q2
    obtain ⟨i, hi', rfl, rfl, rfl, hbr⟩ := hrel
    have hsz := hbr.size
    have q0 := (hbr.cell (p := ⟨bs, 0, none⟩) hbs').trans HC0.out
    have q1 := (hbr.cell (p := ⟨bs + 1, 0, none⟩) hbp').trans HP0.out
    have q2 := (hbr.cell (p := ⟨bs + 1, 1, none⟩) hbp').trans HP1.out
    by_cases hlt : i < n
    · skip
      have hil : i < l.length := by rw [HLEN.out]; exact hlt
      obtain ⟨b, off, Ai, ci, hA, hb1', hb2', c0, c1, c2, c3, c4, c5, c6, hcm, hrd⟩ := (HR0.out.below hbr hh0).at_ hil
      subst hA
      have HRD := hide hrd
      clear hrd
      have hbw : b < wr.heap.size := by omega
      have hhr : hi ≤ wr.heap.size := by omega
      have hbsw : bs < wr.heap.size := by omega
      have hbpw : bs + 1 < wr.heap.size := by omega
      have HC := HCR.out _ (List.getElem_mem hil)
      have HB := ldX_bd HC x y
      have HPC : Hid (plB l[i].x l[i].y = true) := hide (crB_true HC).2.1
      have HCHB : Hid (chB l[i].ch = true) := hide (crB_true HC).2.2.2.2.2.1
      clear HC
      obtain ⟨p1, p2, p3, p4⟩ := HVB.out i (by omega)
      rw [HLEN.out] at p2
      have HY := hide (hvS_yes (x := x) (y := y) hil)
      have HN := hide (hvS_no (x := x) (y := y) hil)
      obtain ⟨v, hv⟩ : ∃ v, ldX l[i] x y = v := ⟨_, rfl⟩
      have HV : Hid (ldI l[i].ch (rt (sqD l[i].x l[i].y x y)) = v) := hide hv
      rw [hv] at HY HN HB
      clear hv
      obtain ⟨⟨p, q⟩, hpq⟩ : ∃ p : Int × Int, hvS l x y i = p := ⟨_, rfl⟩
      rw [hpq] at HY HN p1 p2 p3 p4 ⊢
      clear hpq
      simp only at HY HN p1 p2 p3 p4 ⊢
      have z0 : (0 : Int) ≤ (i : Int) := by omega
      have z1 : (i : Int) < (n : Int) := by omega
      obtain ⟨ni, hni⟩ : ∃ ni, l[i].ch.length = ni := ⟨_, rfl⟩
      have HNI := hide hni
      rw [hni] at c6 hcm HRD
      clear hni
      generalize l[i].ch = ch at *
      generalize l[i].nm = nm at *
      generalize l[i].x = cx at *
      generalize l[i].y = cy at *
      generalize l[i].h = hh at *
      generalize l[i].j = jj at *
      generalize l[i].b = bb at *
      go_wp2_with fail
      refine (loadAtPlace_is HPC.out HPL.out HCHB.out HNI.out HV.out (HRD.out.alloc hhr _) (by simp; omega)).mono ?_
      rintro e w3 ⟨rfl, hq3⟩
      clear q0 q1 q2 c0 c1 c2 c3 c4 c5 c6
      have hbz : Below W0.heap.size W0 w3 := hbr.trans ((((Below.refl _ _).alloc (Nat.le_refl _) _).trans (hq3.mono (by simp))).mono hsz)
      clear hq3
      by_cases hneg : v < 0
      · have hgt : ¬ q < v := by omega
        have E1 : Hid ((hvS l x y (i + 1)).1 = p) := hide (by rw [HN.out (by omega)])
        have E2 : Hid ((hvS l x y (i + 1)).2 = q) := hide (by rw [HN.out (by omega)])
        clear HY HN
        obtain rfl : v = -1 := by omega
        rw [ldV_no, ldK_no]
        go_wp2_with fail
        go_roundw
        case rel => exact ⟨i + 1, by omega, by rw [E1.out], by rw [E2.out], by go_num, hbz⟩
        case measure => simp [intOf]; omega
      rw [ldV_in (by omega), ldK_in (by omega)]
      by_cases hgt : q < v
      · skip
        have E1 : Hid ((hvS l x y (i + 1)).1 = (i : Int)) := hide (by rw [HY.out hgt])
        have E2 : Hid ((hvS l x y (i + 1)).2 = v) := hide (by rw [HY.out hgt])
        clear HY HN
        go_wp2_with fail
        go_roundw
        case rel => exact ⟨i + 1, by omega, by rw [E1.out], by rw [E2.out], by go_num, hbz⟩
        case measure => simp [intOf]; omega
      · skip
        have E1 : Hid ((hvS l x y (i + 1)).1 = p) := hide (by rw [HN.out (by omega)])
        have E2 : Hid ((hvS l x y (i + 1)).2 = q) := hide (by rw [HN.out (by omega)])
        clear HY HN
        go_wp2_with fail
        go_roundw
        case rel => exact ⟨i + 1, by omega, by rw [E1.out], by rw [E2.out], by go_num, hbz⟩
        case measure => simp [intOf]; omega
    · obtain rfl : i = n := by omega
      obtain ⟨p1, p2, p3, p4⟩ := HVB.out i (by rw [HLEN.out]; omega)
      rw [HLEN.out] at p2
      obtain ⟨⟨p, q⟩, hpq⟩ : ∃ p : Int × Int, hvS l x y i = p := ⟨_, rfl⟩
      rw [hpq] at HER p1 p2 p3 p4 ⊢
      simp only at HER p1 p2 p3 p4 ⊢
      clear hpq
      by_cases hneg : p < 0
      · have E : Hid (hvR l x y = (0, 0, 3)) := hide (by rw [HER.out, if_pos hneg])
        clear HER
        go_wp2_with fail
        go_ret3
        exact ⟨ret3 E.out, by first | exact hb0.trans (hbr.mono (by omega)) | (rw [← hbs]; exact hb0.trans (hbr.mono (by omega)))⟩
      · have E : Hid (hvR l x y = (p, q, 0)) := hide (by rw [HER.out, if_neg hneg])
        clear HER
        go_wp2_with fail
        go_ret3
        exact ⟨ret3 E.out, by first | exact hb0.trans (hbr.mono (by omega)) | (rw [← hbs]; exact hb0.trans (hbr.mono (by omega)))⟩

end Go.Proofs.Ytmpccakgpahpoaa
