/-
  VALID SITES: the reference's and the program's. No condition but those that each theorem names.
-/
import Derived.Test.YtajjophmngabbaaGreatDoorCrane
namespace Go.Proofs.YtajjophmngabbaaGreatDoor
open Go.RowKit
set_option linter.unusedVariables false

def crZ : Crn := ⟨⟨#[]⟩, 0, 0, 0, 0, 0, []⟩
/-- May two cranes stand together? -/
def prB (c d : Crn) : Bool := !(c.nm.toList == d.nm.toList) && decide (100 < sqD c.x c.y d.x d.y)
def okC (l : List Crn) (i : Nat) : Bool := crB (l.getD i crZ) && (List.range i).all fun k => prB (l.getD k crZ) (l.getD i crZ)
def siteB (l : List Crn) : Bool := (List.range l.length).all (okC l) && inR (l.length : Int) 1 6
theorem getC {l : List Crn} {i : Nat} (h : i < l.length) : l.getD i crZ = l[i] := by simp [List.getD, h]
theorem siteB_no {l : List Crn} {i : Nat} (hi : i < l.length) (h : okC l i = false) : siteB l = false := by
  have : (List.range l.length).all (okC l) = false := by rw [List.all_eq_false]; exact ⟨i, by simpa using hi, by simp [h]⟩
  unfold siteB; rw [this]; rfl
theorem siteB_end {l : List Crn} (h : ∀ j, j < l.length → okC l j = true) : siteB l = inR (l.length : Int) 1 6 := by
  unfold siteB; rw [List.all_eq_true.2 (fun j hj => h j (by simpa using hj)), Bool.true_and]
theorem okC_1 {l : List Crn} {i : Nat} (hi : i < l.length) (h : crB l[i] = false) : okC l i = false := by unfold okC; rw [getC hi, h]; rfl
theorem okC_2 {l : List Crn} {i k : Nat} (hi : i < l.length) (hk : k < i) (h : prB (l[k]'(by omega)) l[i] = false) : okC l i = false := by
  have : (List.range i).all (fun k => prB (l.getD k crZ) (l.getD i crZ)) = false := by
    rw [List.all_eq_false]; exact ⟨k, by simpa using hk, by rw [getC hi, getC (show k < l.length by omega), h]; simp⟩
  unfold okC; rw [this, Bool.and_false]
theorem okC_3 {l : List Crn} {i : Nat} (hi : i < l.length) (h : crB l[i] = true) (hp : ∀ q, q < i → prB (l.getD q crZ) (l.getD i crZ) = true) : okC l i = true := by
  unfold okC; rw [getC hi, h, Bool.true_and, List.all_eq_true]; intro q hq; rw [← getC hi]; exact hp q (by simpa using hq)
theorem okC_cr {l : List Crn} {i : Nat} (hi : i < l.length) (h : okC l i = true) : crB l[i] = true := by
  unfold okC at h; rw [getC hi] at h; simp only [Bool.and_eq_true] at h; exact h.1
theorem all_more {P : Nat → Bool} {k : Nat} (h : ∀ j, j < k → P j = true) (hk : P k = true) : ∀ j, j < k + 1 → P j = true := by
  intro j hj
  rcases Nat.lt_or_ge j k with h1 | h1
  · exact h j h1
  · obtain rfl : j = k := by omega
    exact hk
theorem siteB_cr {l : List Crn} (h : siteB l = true) : (∀ c ∈ l, crB c = true) ∧ 1 ≤ l.length ∧ l.length ≤ 6 := by
  unfold siteB at h
  simp only [Bool.and_eq_true, List.all_eq_true, List.mem_range] at h
  have := inR_true h.2
  refine ⟨fun c hc => ?_, by omega, by omega⟩
  obtain ⟨i, hi, rfl⟩ := List.mem_iff_getElem.1 hc
  exact okC_cr hi (h.1 i hi)
theorem l04Ok_is {b o lo hi : Nat} {own : Bool} {c : Crn} (hch : c.ch.length ≤ 1048576) (hnm : c.nm.size ≤ maxLen) {w : World} (hb : b < w.heap.size) (hhi : hi ≤ w.heap.size) (h : CrAt w lo hi own b o c) {r : Bool} (hr : crB c = r) :
    Calls Tryz.prog 49 #[.pointer (some ⟨b, o, none⟩)] w fun e w' => e = .returned (.bool r) ∧ Below w.heap.size w w' := by
  rw [← hr]; exact l04Ok_any b o lo hi own c hch hnm w hb hhi h
theorem crane_is {lo hi : Nat} {c : Crn} {Ai : Option Addr} {ni ci : Nat} (hni : c.ch.length = ni) (hch : ni ≤ 1048576) (hnm : c.nm.size ≤ maxLen) {w : World} (hhi : hi ≤ w.heap.size) (h : Rd w lo hi 2 Ai ni (rChartStep c.ch)) {r : Bool} (hr : crB c = r) :
    Calls Tryz.prog 56 #[.agg #[.string c.nm, .int .i64 c.x, .int .i64 c.y, .int .i64 c.h, .int .i64 c.j, .int .i64 c.b, .slice Ai ni ci]] w fun e w' => e = .returned (.bool r) ∧ Below w.heap.size w w' := by
  rw [← hr]; exact implValidCrane_any lo hi c Ai ni ci hni hch hnm w hhi h
theorem far_is {x y x' y' : Int} (h : plB x y = true) (h' : plB x' y' = true) {r : Bool} (hr : decide (100 < sqD x y x' y') = r) {w : World} :
    Calls Tryz.prog 50 #[.agg #[.int .i64 x, .int .i64 y], .agg #[.int .i64 x', .int .i64 y'], .int .i64 10] w fun e w' => e = .returned (.bool r) ∧ Below w.heap.size w w' := by
  rw [← hr]; exact l04Far_any x y x' y' h h' 10 (by omega) (by omega) w
theorem near_is {x y x' y' : Int} (h : plB x y = true) (h' : plB x' y' = true) {r : Bool} (hr : decide (100 < sqD x y x' y') = r) {w : World} :
    Calls Tryz.prog 57 #[.agg #[.int .i64 x, .int .i64 y], .agg #[.int .i64 x', .int .i64 y'], .int .i64 10] w fun e w' => e = .returned (.bool (!r)) ∧ Below w.heap.size w w' := by
  have e : (!r) = decide (sqD x y x' y' ≤ 10 * 10) := by rw [← hr, Bool.eq_iff_iff]; simp
  rw [e]; exact near_any x y x' y' h h' 10 (by omega) (by omega) w

set_option maxRecDepth 100000 in
set_option maxHeartbeats 2000000 in
theorem l04Site_any (bs os : Nat) (A : Option Addr) (n c lo hi : Nat) (own : Bool) (l : List Crn) (hn : n ≤ 1048576) (hch : ∀ p ∈ l, p.ch.length ≤ 1048576) (hnm : ∀ p ∈ l, p.nm.size ≤ maxLen) (w : World) (hbs : bs < w.heap.size) (hs : w.cell? ⟨bs, os, none⟩ = some (.slice A n c)) (h : RdC w lo hi own A n l) (hhi : hi ≤ w.heap.size) :
    Calls Tryz.prog 36 #[.pointer (some ⟨bs, os, none⟩)] w fun e w' => e = .returned (.bool (siteB l)) ∧ Below w.heap.size w w' := by
  have H1 := hide h.length
  have H2 := hide h
  have HCH := hide (show ∀ (i : Nat) (hi : i < l.length), l[i].ch.length ≤ 1048576 from fun i hi => hch _ (List.getElem_mem hi))
  have HNM := hide (show ∀ (i : Nat) (hi : i < l.length), l[i].nm.size ≤ maxLen from fun i hi => hnm _ (List.getElem_mem hi))
  clear h hch hnm
  have HS := hide hs
  go_enter Tryz.func36, Tryz.ntmps36
  go_wp2_with fail
  clear hs
  go_loopw [3] (fun ii wr => ∃ i : Nat, i ≤ n ∧ ii = .int .i64 i ∧ Hid (∀ j, j < i → okC l j = true) ∧ Below w.heap.size w wr) (fun ii _ => n - (intOf ii).toNat)
  case atStart => exact ⟨0, by omega, rfl, hide (fun j hj => absurd hj (by omega)), Below.refl _ _⟩
  case round =>
    obtain ⟨i, hi', rfl, HOK, hbr⟩ := hrel
    have hsc := (hbr.cell (p := ⟨bs, os, none⟩) hbs).trans HS.out
    by_cases hlt : i < n
    · skip
      have hil : i < l.length := by rw [H1.out]; exact hlt
      have hsz := hbr.size
      have HRW := hide (H2.out.below hbr hhi)
      obtain ⟨b, off, hA, hb1, hb2, hall⟩ := HRW.out.2 (by omega)
      subst hA
      have HALL := hide hall
      have hcr := hall i hil
      clear hall
      have HCR := hide hcr
      clear hcr
      have hbw : b < wr.heap.size := by omega
      have hhr : hi ≤ wr.heap.size := by omega
      have x1 : (i : Int) < (n : Int) := by omega
      have x0 : (0 : Int) ≤ (i : Int) := by omega
      cases e1 : crB l[i]
      case false =>
        have E := hide (siteB_no hil (okC_1 hil e1))
        clear HOK
        go_wp2_with (go_at_call 49; (with_reducible refine (l04Ok_is (HCH.out i hil) (HNM.out i hil) hbw hhr HCR.out e1).mono ?_); rintro e w1 ⟨rfl, hb1⟩)
        go_ret
        exact ⟨ret_bool E.out.symm, hbr.trans (hb1.mono hsz)⟩
      have HE1 := hide e1
      go_wp2_with (go_at_call 49; (with_reducible refine (l04Ok_is (HCH.out i hil) (HNM.out i hil) hbw hhr HCR.out e1).mono ?_); rintro e w1 ⟨rfl, hbx⟩)
      clear e1 hsc
      have hbr1 := hbr.trans (hbx.mono hsz)
      have hsx := hbx.size
      clear hbx HALL HCR HRW
      obtain ⟨wo, rfl⟩ : ∃ wo : World, wo = wr := ⟨_, rfl⟩
      go_loopw [4] (fun kk wr => ∃ k : Nat, k ≤ i ∧ kk = .int .i64 k ∧ Hid (∀ q, q < k → prB (l.getD q crZ) (l.getD i crZ) = true) ∧ Below w.heap.size w wr) (fun kk _ => i - (intOf kk).toNat)
      case atStart => exact ⟨0, by omega, rfl, hide (fun q hq => absurd hq (by omega)), hbr1⟩
      case round =>
        clear hbr1 hsx
        obtain ⟨k, hk, rfl, HP, hbk⟩ := hrel
        have hsk := hbk.size
        have hsc := (hbk.cell (p := ⟨bs, os, none⟩) hbs).trans HS.out
        by_cases hki : k < i
        · skip
          have hkl : k < l.length := by omega
          obtain ⟨b', off', _, _, hA, _, _, c0, c1, c2, _, _, _, _, _, _⟩ := (H2.out.below hbk hhi).at_ hil
          obtain ⟨b'', off'', _, _, hA', _, _, d0, d1, d2, _, _, _, _, _, _⟩ := (H2.out.below hbk hhi).at_ hkl
          obtain ⟨rfl, rfl⟩ : b = b' ∧ off = off' := by simpa using hA
          obtain ⟨rfl, rfl⟩ : b = b'' ∧ off = off'' := by simpa using hA'
          clear hA hA'
          have P1 : Hid (plB l[i].x l[i].y = true) := hide (crB_true HE1.out).2.1
          have P2 : Hid (plB l[k].x l[k].y = true) := hide (crB_true (okC_cr hkl (HOK.out k hki))).2.1
          have HPR : Hid (prB l[k] l[i] = (!(l[k].nm.toList == l[i].nm.toList) && decide (100 < sqD l[k].x l[k].y l[i].x l[i].y))) := hide rfl
          have HNO : Hid (prB l[k] l[i] = false → siteB l = false) := hide (fun e => siteB_no hil (okC_2 hil hki e))
          have HYES : Hid (prB l[k] l[i] = true → ∀ q, q < k + 1 → prB (l.getD q crZ) (l.getD i crZ) = true) := hide (fun e => all_more (P := fun q => prB (l.getD q crZ) (l.getD i crZ)) HP.out (by show prB (l.getD k crZ) (l.getD i crZ) = true; rw [getC hkl, getC hil]; exact e))
          have z0 : (0 : Int) ≤ (k : Int) := by omega
          have z1 : (k : Int) < (n : Int) := by omega
          clear HP
          generalize l[i].nm = ni at *
          generalize l[i].x = xi at *
          generalize l[i].y = yi at *
          generalize l[k].nm = nk at *
          generalize l[k].x = xk at *
          generalize l[k].y = yk at *
          cases e2 : (nk.toList == ni.toList)
          case true =>
            have E := hide (HNO.out (by rw [HPR.out, e2]; rfl))
            clear HNO HYES HPR
            go_wp2_with fail
            go_quiet (fail)
            go_wp2_with fail
            go_ret
            exact ⟨ret_bool E.out.symm, hbk.trans (Joins.below_draws _ _ _)⟩
          cases e3 : decide (100 < sqD xk yk xi yi)
          case false =>
            have E := hide (HNO.out (by rw [HPR.out, e2, e3]; rfl))
            clear HNO HYES HPR
            have HSS : Hid ((World.drew wr).cell? ⟨bs, os, none⟩ = some (.slice (some ⟨b, off, none⟩) n c) ∧ (World.drew wr).cell? ⟨b, off + k * 7, none⟩ = some (.string nk) ∧ (World.drew wr).cell? ⟨b, off + i * 7, none⟩ = some (.string ni) ∧ (World.drew wr).cell? ⟨b, off + k * 7 + 1, none⟩ = some (.int .i64 xk) ∧ (World.drew wr).cell? ⟨b, off + k * 7 + 2, none⟩ = some (.int .i64 yk) ∧ (World.drew wr).cell? ⟨b, off + i * 7 + 1, none⟩ = some (.int .i64 xi) ∧ (World.drew wr).cell? ⟨b, off + i * 7 + 2, none⟩ = some (.int .i64 yi)) := hide ⟨hsc, d0, c0, d1, d2, c1, c2⟩
            go_wp2_with fail
            clear hsc d0 c0 d1 d2 c1 c2
            go_region_held3 (fun W => W.cell? ⟨bs, os, none⟩ = some (.slice (some ⟨b, off, none⟩) n c) ∧ W.cell? ⟨b, off + k * 7, none⟩ = some (.string nk) ∧ W.cell? ⟨b, off + i * 7, none⟩ = some (.string ni) ∧ W.cell? ⟨b, off + k * 7 + 1, none⟩ = some (.int .i64 xk) ∧ W.cell? ⟨b, off + k * 7 + 2, none⟩ = some (.int .i64 yk) ∧ W.cell? ⟨b, off + i * 7 + 1, none⟩ = some (.int .i64 xi) ∧ W.cell? ⟨b, off + i * 7 + 2, none⟩ = some (.int .i64 yi)) (with_reducible exact HSS.out) (first | (go_at_call 50; (with_reducible refine (far_is P2.out P1.out e3).mono ?_); rintro e w2 ⟨rfl, hq2⟩; have HSS : Hid (w2.cell? ⟨bs, os, none⟩ = some (.slice (some ⟨b, off, none⟩) n c) ∧ w2.cell? ⟨b, off + k * 7, none⟩ = some (.string nk) ∧ w2.cell? ⟨b, off + i * 7, none⟩ = some (.string ni) ∧ w2.cell? ⟨b, off + k * 7 + 1, none⟩ = some (.int .i64 xk) ∧ w2.cell? ⟨b, off + k * 7 + 2, none⟩ = some (.int .i64 yk) ∧ w2.cell? ⟨b, off + i * 7 + 1, none⟩ = some (.int .i64 xi) ∧ w2.cell? ⟨b, off + i * 7 + 2, none⟩ = some (.int .i64 yi)) := hide ⟨(hq2.cell (p := ⟨bs, os, none⟩) (by show bs < wr.heap.size; omega)).trans HSS.out.1, (hq2.cell (p := ⟨b, off + k * 7, none⟩) (by show b < wr.heap.size; omega)).trans HSS.out.2.1, (hq2.cell (p := ⟨b, off + i * 7, none⟩) (by show b < wr.heap.size; omega)).trans HSS.out.2.2.1, (hq2.cell (p := ⟨b, off + k * 7 + 1, none⟩) (by show b < wr.heap.size; omega)).trans HSS.out.2.2.2.1, (hq2.cell (p := ⟨b, off + k * 7 + 2, none⟩) (by show b < wr.heap.size; omega)).trans HSS.out.2.2.2.2.1, (hq2.cell (p := ⟨b, off + i * 7 + 1, none⟩) (by show b < wr.heap.size; omega)).trans HSS.out.2.2.2.2.2.1, (hq2.cell (p := ⟨b, off + i * 7 + 2, none⟩) (by show b < wr.heap.size; omega)).trans HSS.out.2.2.2.2.2.2⟩))
            have hbz : Below w.heap.size w w2 := hbk.trans ((Below.trans (Below.refl _ _).drew hq2).mono hsk)
            go_wp2_with fail
            go_ret
            exact ⟨ret_bool E.out.symm, hbz⟩
          have E := hide (HYES.out (by rw [HPR.out, e2, e3]; rfl))
          clear HNO HYES HPR
          have HSS : Hid ((World.drew wr).cell? ⟨bs, os, none⟩ = some (.slice (some ⟨b, off, none⟩) n c) ∧ (World.drew wr).cell? ⟨b, off + k * 7, none⟩ = some (.string nk) ∧ (World.drew wr).cell? ⟨b, off + i * 7, none⟩ = some (.string ni) ∧ (World.drew wr).cell? ⟨b, off + k * 7 + 1, none⟩ = some (.int .i64 xk) ∧ (World.drew wr).cell? ⟨b, off + k * 7 + 2, none⟩ = some (.int .i64 yk) ∧ (World.drew wr).cell? ⟨b, off + i * 7 + 1, none⟩ = some (.int .i64 xi) ∧ (World.drew wr).cell? ⟨b, off + i * 7 + 2, none⟩ = some (.int .i64 yi)) := hide ⟨hsc, d0, c0, d1, d2, c1, c2⟩
          go_wp2_with fail
          clear hsc d0 c0 d1 d2 c1 c2
          go_region_held3 (fun W => W.cell? ⟨bs, os, none⟩ = some (.slice (some ⟨b, off, none⟩) n c) ∧ W.cell? ⟨b, off + k * 7, none⟩ = some (.string nk) ∧ W.cell? ⟨b, off + i * 7, none⟩ = some (.string ni) ∧ W.cell? ⟨b, off + k * 7 + 1, none⟩ = some (.int .i64 xk) ∧ W.cell? ⟨b, off + k * 7 + 2, none⟩ = some (.int .i64 yk) ∧ W.cell? ⟨b, off + i * 7 + 1, none⟩ = some (.int .i64 xi) ∧ W.cell? ⟨b, off + i * 7 + 2, none⟩ = some (.int .i64 yi)) (with_reducible exact HSS.out) (first | (go_at_call 50; (with_reducible refine (far_is P2.out P1.out e3).mono ?_); rintro e w2 ⟨rfl, hq2⟩; have HSS : Hid (w2.cell? ⟨bs, os, none⟩ = some (.slice (some ⟨b, off, none⟩) n c) ∧ w2.cell? ⟨b, off + k * 7, none⟩ = some (.string nk) ∧ w2.cell? ⟨b, off + i * 7, none⟩ = some (.string ni) ∧ w2.cell? ⟨b, off + k * 7 + 1, none⟩ = some (.int .i64 xk) ∧ w2.cell? ⟨b, off + k * 7 + 2, none⟩ = some (.int .i64 yk) ∧ w2.cell? ⟨b, off + i * 7 + 1, none⟩ = some (.int .i64 xi) ∧ w2.cell? ⟨b, off + i * 7 + 2, none⟩ = some (.int .i64 yi)) := hide ⟨(hq2.cell (p := ⟨bs, os, none⟩) (by show bs < wr.heap.size; omega)).trans HSS.out.1, (hq2.cell (p := ⟨b, off + k * 7, none⟩) (by show b < wr.heap.size; omega)).trans HSS.out.2.1, (hq2.cell (p := ⟨b, off + i * 7, none⟩) (by show b < wr.heap.size; omega)).trans HSS.out.2.2.1, (hq2.cell (p := ⟨b, off + k * 7 + 1, none⟩) (by show b < wr.heap.size; omega)).trans HSS.out.2.2.2.1, (hq2.cell (p := ⟨b, off + k * 7 + 2, none⟩) (by show b < wr.heap.size; omega)).trans HSS.out.2.2.2.2.1, (hq2.cell (p := ⟨b, off + i * 7 + 1, none⟩) (by show b < wr.heap.size; omega)).trans HSS.out.2.2.2.2.2.1, (hq2.cell (p := ⟨b, off + i * 7 + 2, none⟩) (by show b < wr.heap.size; omega)).trans HSS.out.2.2.2.2.2.2⟩))
          have hbz : Below w.heap.size w w2 := hbk.trans ((Below.trans (Below.refl _ _).drew hq2).mono hsk)
          go_wp2_with fail
          go_roundw
          case rel => exact ⟨k + 1, by omega, by go_num, E, hbz⟩
          case measure => simp [intOf]; omega
        · obtain rfl : k = i := by omega
          have E : Hid (∀ j, j < k + 1 → okC l j = true) := hide (all_more (P := okC l) HOK.out (okC_3 hil HE1.out HP.out))
          clear HP
          go_wp2_with fail
          go_roundw
          case rel => exact ⟨k + 1, by omega, by go_num, E, hbk⟩
          case measure => simp [intOf]; omega
    · obtain rfl : i = n := by omega
      have E := hide (siteB_end (fun j hj => HOK.out j (by rw [H1.out] at hj; exact hj)))
      rw [H1.out] at E
      clear HOK
      cases e5 : inR (i : Int) 1 6
      all_goals (go_wp2_with (go_at_call 13; (with_reducible refine (l00In_is e5).mono ?_); rintro e w' ⟨rfl, hw⟩; obtain rfl := hw.symm); go_ret; exact ⟨ret_bool (by rw [E.out, e5]), hbr⟩)

set_option maxRecDepth 100000 in
set_option maxHeartbeats 2000000 in
theorem implValidSite_any (A : Option Addr) (n c lo hi : Nat) (own : Bool) (l : List Crn) (hn : n ≤ 1048576) (hch : ∀ p ∈ l, p.ch.length ≤ 1048576) (hnm : ∀ p ∈ l, p.nm.size ≤ maxLen) (w : World) (h : RdC w lo hi own A n l) (hhi : hi ≤ w.heap.size) (hnc : n ≤ c) :
    Calls Tryz.prog 41 #[.agg #[.slice A n c]] w fun e w' => e = .returned (.bool (siteB l)) ∧ Below w.heap.size w w' := by
  have H1 := hide h.length
  have H2 := hide h
  have HCH := hide (show ∀ (i : Nat) (hi : i < l.length), l[i].ch.length ≤ 1048576 from fun i hi => hch _ (List.getElem_mem hi))
  have HNM := hide (show ∀ (i : Nat) (hi : i < l.length), l[i].nm.size ≤ maxLen from fun i hi => hnm _ (List.getElem_mem hi))
  clear h hch hnm
  go_enter Tryz.func41, Tryz.ntmps41
  go_wp2_with fail
  obtain ⟨W0, hW0⟩ : ∃ W0 : World, W0 = w.alloc (.cells #[.slice A n c] 30) := ⟨_, rfl⟩
  rw [← hW0]
  have HS : Hid (W0.cell? ⟨w.heap.size, 0, none⟩ = some (.slice A n c)) := hide (by rw [hW0]; exact new_cell _ _ _ 0)
  have hB : Below w.heap.size w W0 := by rw [hW0]; exact (Below.refl _ _).alloc (Nat.le_refl _) _
  have hs0 : w.heap.size < W0.heap.size := by rw [hW0]; simp
  have hs0' : w.heap.size ≤ W0.heap.size := by omega
  clear hW0
  go_loopw [10] (fun ii wr => ∃ i : Nat, i ≤ n ∧ ii = .int .i64 i ∧ Hid (∀ j, j < i → okC l j = true) ∧ Below W0.heap.size W0 wr) (fun ii _ => n - (intOf ii).toNat)
  case atStart => exact ⟨0, by omega, rfl, hide (fun j hj => absurd hj (by omega)), Below.refl _ _⟩
  case round =>
    obtain ⟨i, hi', rfl, HOK, hbr⟩ := hrel
    have hsc := (hbr.cell (p := ⟨w.heap.size, 0, none⟩) hs0).trans HS.out
    by_cases hlt : i < n
    · skip
      have hil : i < l.length := by rw [H1.out]; exact hlt
      have hsz := hbr.size
      have hbW := hB.trans (hbr.mono hs0')
      obtain ⟨b, off, Ai, ci, hA, hb1, hb2, c0, c1, c2, c3, c4, c5, c6, hcm, hrd⟩ := (H2.out.below hbW hhi).at_ hil
      subst hA
      have HRD := hide hrd
      clear hrd
      have hbw : b < wr.heap.size := by omega
      have hhr : hi ≤ wr.heap.size := by omega
      have hbsw : w.heap.size < wr.heap.size := by omega
      have x1 : (i : Int) < (n : Int) := by omega
      have x0 : (0 : Int) ≤ (i : Int) := by omega
      obtain ⟨ni, hni⟩ : ∃ ni, l[i].ch.length = ni := ⟨_, rfl⟩
      have HNI := hide hni
      have hchi := HCH.out i hil
      rw [hni] at c6 hcm HRD hchi
      clear hni
      cases e1 : crB l[i]
      case false =>
        have E := hide (siteB_no hil (okC_1 hil e1))
        clear HOK
        go_wp2_with (go_at_call 56; (with_reducible refine (crane_is HNI.out hchi (HNM.out i hil) (by simp; omega) (HRD.out.alloc hhr _) e1).mono ?_); rintro e w1 ⟨rfl, hbx⟩)
        go_ret
        exact ⟨ret_bool E.out.symm, hbW.trans (((Below.refl _ _).alloc (Nat.le_refl _) _ |>.trans (hbx.mono (by simp))).mono (by omega))⟩
      have HE1 := hide e1
      go_wp2_with fail
      (with_reducible refine (crane_is HNI.out hchi (HNM.out i hil) (by simp; omega) (HRD.out.alloc hhr _) e1).mono ?_); rintro e w1 ⟨rfl, hbx⟩
      clear e1 hsc c0 c1 c2 c3 c4 c5 c6
      have hbo : Below wr.heap.size wr w1 := ((Below.refl _ _).alloc (Nat.le_refl _) _).trans (hbx.mono (by simp))
      have bT : Box w1 wr.heap.size [.string l[i].nm, .int .i64 l[i].x, .int .i64 l[i].y, .int .i64 l[i].h, .int .i64 l[i].j, .int .i64 l[i].b, .slice Ai ni ci] := Box.below (box_new wr #[.string l[i].nm, .int .i64 l[i].x, .int .i64 l[i].y, .int .i64 l[i].h, .int .i64 l[i].j, .int .i64 l[i].b, .slice Ai ni ci] 45) hbx (by simp)
      have hs1 : wr.heap.size < w1.heap.size := by have := hbx.size; simp at this; omega
      have hbr1 := hbr.trans (hbo.mono hsz)
      clear hbx hbo
      have hsc1 := (hbr1.cell (p := ⟨w.heap.size, 0, none⟩) hs0).trans HS.out
      have BT := hide bT
      clear bT
      obtain ⟨wo, rfl⟩ : ∃ wo : World, wo = wr := ⟨_, rfl⟩
      go_wp2_with fail
      go_loopw [23] (fun kk wr => ∃ k : Nat, k ≤ i ∧ kk = .int .i64 k ∧ Hid (∀ q, q < k → prB (l.getD q crZ) (l.getD i crZ) = true) ∧ Below w1.heap.size w1 wr) (fun kk _ => i - (intOf kk).toNat)
      case atStart => exact ⟨0, by omega, rfl, hide (fun q hq => absurd hq (by omega)), Below.refl _ _⟩
      case round =>
        clear hsc1
        obtain ⟨k, hk, rfl, HP, hbk⟩ := hrel
        have hsk := hbk.size
        have hbW0 := hbr1.trans (hbk.mono hbr1.size)
        have hbk2 := hB.trans (hbW0.mono hs0')
        have BTK := hide (BT.out.below hbk hs1)
        by_cases hki : k < i
        · skip
          have hkl : k < l.length := by omega
          obtain ⟨b'', off'', Ak, ck, hA', _, _, d0, d1, d2, d3, d4, d5, d6, _, _⟩ := (H2.out.below hbk2 hhi).at_ hkl
          obtain ⟨rfl, rfl⟩ : b = b'' ∧ off = off'' := by simpa using hA'
          clear hA'
          have P1 : Hid (plB l[i].x l[i].y = true) := hide (crB_true HE1.out).2.1
          have P2 : Hid (plB l[k].x l[k].y = true) := hide (crB_true (okC_cr hkl (HOK.out k hki))).2.1
          have HPR : Hid (prB l[k] l[i] = (!(l[k].nm.toList == l[i].nm.toList) && decide (100 < sqD l[k].x l[k].y l[i].x l[i].y))) := hide rfl
          have HNO : Hid (prB l[k] l[i] = false → siteB l = false) := hide (fun e => siteB_no hil (okC_2 hil hki e))
          have HYES : Hid (prB l[k] l[i] = true → ∀ q, q < k + 1 → prB (l.getD q crZ) (l.getD i crZ) = true) := hide (fun e => all_more (P := fun q => prB (l.getD q crZ) (l.getD i crZ)) HP.out (by show prB (l.getD k crZ) (l.getD i crZ) = true; rw [getC hkl, getC hil]; exact e))
          have z0 : (0 : Int) ≤ (k : Int) := by omega
          have z1 : (k : Int) < (i : Int) := by omega
          have z2 : k < n := by omega
          have hbw2 : b < wr.heap.size := by omega
          have hT : wo.heap.size < wr.heap.size := by omega
          clear HP
          generalize l[k].ch.length = nk' at *
          have tT0 := BTK.out 0 _ rfl
          have tT1 := BTK.out 1 _ rfl
          have tT2 := BTK.out 2 _ rfl
          generalize l[i].nm = ni' at *
          generalize l[i].x = xi at *
          generalize l[i].y = yi at *
          generalize l[k].nm = nk at *
          generalize l[k].x = xk at *
          generalize l[k].y = yk at *
          generalize l[k].h = hk' at *
          generalize l[k].j = jk at *
          generalize l[k].b = bk at *
          cases e2 : (nk.toList == ni'.toList)
          case true =>
            have E := hide (HNO.out (by rw [HPR.out, e2]; rfl))
            clear HNO HYES HPR
            go_wp2_with fail
            go_ret
            exact ⟨ret_bool E.out.symm, hbk2.alloc (by omega) _⟩
          cases e3 : decide (100 < sqD xk yk xi yi)
          case false =>
            have E := hide (HNO.out (by rw [HPR.out, e2, e3]; rfl))
            clear HNO HYES HPR
            go_wp2_with (go_at_call 57; (with_reducible refine (near_is P2.out P1.out e3).mono ?_); rintro e w2 ⟨rfl, hq2⟩)
            have hbz : Below w1.heap.size w1 w2 := (hbk.alloc hsk _).trans (hq2.mono (by simp; omega))
            go_ret
            exact ⟨ret_bool E.out.symm, hB.trans ((hbr1.trans (hbz.mono hbr1.size)).mono hs0')⟩
          have E := hide (HYES.out (by rw [HPR.out, e2, e3]; rfl))
          clear HNO HYES HPR
          go_wp2_with (go_at_call 57; (with_reducible refine (near_is P2.out P1.out e3).mono ?_); rintro e w2 ⟨rfl, hq2⟩)
          have hbz : Below w1.heap.size w1 w2 := (hbk.alloc hsk _).trans (hq2.mono (by simp; omega))
          go_roundw
          case rel => exact ⟨k + 1, by omega, by go_num, E, hbz⟩
          case measure => simp [intOf]; omega
        · obtain rfl : k = i := by omega
          have E : Hid (∀ j, j < k + 1 → okC l j = true) := hide (all_more (P := okC l) HOK.out (okC_3 hil HE1.out HP.out))
          clear HP
          go_wp2_with fail
          go_roundw
          case rel => exact ⟨k + 1, by omega, by go_num, E, hbW0⟩
          case measure => simp [intOf]; omega
    · obtain rfl : i = n := by omega
      have E := hide (siteB_end (fun j hj => HOK.out j (by rw [H1.out] at hj; exact hj)))
      rw [H1.out] at E
      clear HOK
      unfold inR at E
      by_cases q1 : 1 ≤ (i : Int)
      · by_cases q2 : (i : Int) ≤ 6
        all_goals (go_wp2_with fail; go_ret; exact ⟨ret_bool (by rw [E.out]; simp [q1, q2]; try omega), hB.trans (hbr.mono hs0')⟩)
      · go_wp2_with fail
        go_ret
        exact ⟨ret_bool (by rw [E.out]; first | (simp; done) | (simp; omega)), hB.trans (hbr.mono hs0')⟩

end Go.Proofs.YtajjophmngabbaaGreatDoor
