/-
  GEOMETRY of the reference, exactly: whether two cranes are in conflict. No condition but those that each theorem names.
-/
import Derived.Test.YtajjophmngabbaaGreatDoorGe3
namespace Go.Proofs.YtajjophmngabbaaGreatDoor
open Go.RowKit
set_option linter.unusedVariables false
set_option linter.unusedSimpArgs false

/-- What is left when the booms are not near, or the heights far apart. -/
def TwB (ha hb : Int) (m1 m2 r : Bool) : Prop := r = ((decide (ha < hb) && m1) || (decide (hb < ha) && m2))
theorem TwB.a {ha hb : Int} {m1 m2 r : Bool} (h : TwB ha hb m1 m2 r) (g : ha < hb) : m1 = r := by unfold TwB at h; rw [h]; simp [g, show ¬ hb < ha by omega]
theorem TwB.b {ha hb : Int} {m1 m2 r : Bool} (h : TwB ha hb m1 m2 r) (g : hb < ha) : m2 = r := by unfold TwB at h; rw [h]; simp [g, show ¬ ha < hb by omega]
theorem TwB.c {ha hb : Int} {m1 m2 r : Bool} (h : TwB ha hb m1 m2 r) (g : ¬ ha < hb) (g2 : ¬ hb < ha) : false = r := by unfold TwB at h; rw [h]; simp [g, g2]
theorem cf_off {a b : Crn} {h D d e s : Int} {m1 m2 r : Bool} (hs : siz (h - b.h) = s) (hl : decide (s < 60) = false) (h1 : bmN a b D d = m1) (h2 : bmN b a D e = m2) (hr : cfB a b h D d e = r) : TwB h b.h m1 m2 r := by
  unfold TwB
  rw [← hr, ← h1, ← h2]
  have : (decide (h - b.h < 60) && decide (b.h - h < 60)) = false := by
    have hl := of_decide_eq_false hl
    rw [← hs] at hl
    unfold siz at hl
    rw [Bool.and_eq_false_iff, decide_eq_false_iff_not, decide_eq_false_iff_not]
    split at hl <;> omega
  simp [cfB, this]
theorem cf_no {a b : Crn} {h D d e : Int} {m1 m2 r : Bool} (hb : bbN a b D d e = false) (h1 : bmN a b D d = m1) (h2 : bmN b a D e = m2) (hr : cfB a b h D d e = r) : TwB h b.h m1 m2 r := by
  unfold TwB
  rw [← hr, ← h1, ← h2]
  simp [cfB, hb]
theorem cf_yes {a b : Crn} {h D d e s : Int} {r : Bool} (hs : siz (h - b.h) = s) (hl : decide (s < 60) = true) (hb : bbN a b D d e = true) (hr : cfB a b h D d e = r) : true = r := by
  rw [← hr]
  have hl := of_decide_eq_true hl
  rw [← hs] at hl
  unfold siz at hl
  have h1 : h - b.h < 60 := by split at hl <;> omega
  have h2 : b.h - h < 60 := by split at hl <;> omega
  simp [cfB, hb, h1, h2]

set_option maxRecDepth 100000 in
set_option maxHeartbeats 2000000 in
theorem l15Conflict_is {ga oa gb ob : Nat} {ca cb : Crn} {ha da db D : Int} {r : Bool} (ka : crB ca = true) (kb : crB cb = true) (hh0 : 1 ≤ ha) (hh1 : ha ≤ 2000) (ha0 : 0 ≤ da) (ha1 : da ≤ 23) (hb0 : 0 ≤ db) (hb1 : db ≤ 23) (hD0 : 0 ≤ D) (hD1 : D ≤ 1000) (hr : cfB ca cb ha D da db = r) {w : World} (hA : NmC w ga oa ca ha) (hB : NmC w gb ob cb cb.h) :
    Calls Tryz.prog 38 #[.pointer (some ⟨ga, oa, none⟩), .pointer (some ⟨gb, ob, none⟩), .int .i64 da, .int .i64 db, .int .i64 D] w fun e w' => e = .returned (.bool r) ∧ Below w.heap.size w w' := by
  obtain ⟨-, -, ⟨y0, y1⟩, -, -⟩ := cr_nums kb
  obtain ⟨m1, hm1⟩ : ∃ m, bmN ca cb D da = m := ⟨_, rfl⟩
  obtain ⟨m2, hm2⟩ : ∃ m, bmN cb ca D db = m := ⟨_, rfl⟩
  obtain ⟨yy, hyy⟩ : ∃ m, bbN ca cb D da db = m := ⟨_, rfl⟩
  obtain ⟨s, hs⟩ : ∃ s, siz (ha - cb.h) = s := ⟨_, rfl⟩
  have F1 : decide (s < 60) = false → TwB ha cb.h m1 m2 r := fun h => cf_off hs h hm1 hm2 hr
  have F2 : yy = false → TwB ha cb.h m1 m2 r := fun h => cf_no (hyy.trans h) hm1 hm2 hr
  have F3 : decide (s < 60) = true → yy = true → true = r := fun h h2 => cf_yes hs h (hyy.trans h2) hr
  obtain ⟨⟨p1, p2, p3, p4⟩, hp⟩ : ∃ p, bmI ca da = p := ⟨_, rfl⟩
  obtain ⟨⟨q1, q2, q3, q4⟩, hq⟩ : ∃ p, bmI cb db = p := ⟨_, rfl⟩
  have HCP := hide (show CoS p1 p2 p3 p4 by have := bmI_co ka da; rw [hp] at this; exact this)
  have HCQ := hide (show CoS q1 q2 q3 q4 by have := bmI_co kb db; rw [hq] at this; exact this)
  have HNR := hide (show nrB p1 p2 p3 p4 q1 q2 q3 q4 D = yy by rw [← hyy]; unfold bbN nrQ; rw [hp, hq])
  obtain ⟨hb, hbe⟩ : ∃ h, cb.h = h := ⟨_, rfl⟩
  rw [hbe] at hs F1 F2 hB y0 y1
  have HM1 := hide hm1
  have HM2 := hide hm2
  have HP := hide hp
  have HQ' := hide hq
  have HS := hide hs
  have KA := hide ka
  have KB := hide kb
  clear hm1 hm2 hyy hp hq hs hr hbe
  have hga := hA.1
  have hgb := hB.1
  have xa := hA.2.2.2.1
  have xb := hB.2.2.2.1
  have HCA := hide hA
  have HCB := hide hB
  clear hA hB ka kb
  have HS2 : Hid (siz (IntKind.i64.wrap (ha - hb)) = s) := by rw [IntWalk.i64_left, IntWalk.wrap64_in _ ⟨by omega, by omega⟩]; exact HS.out
  cases hlt : decide (s < 60)
  · have HT := hide (F1 hlt)
    clear F1 F2 F3
    go_enter Tryz.func38, Tryz.ntmps38
    go_wp2_with fail
    refine wp_region_held_drew (S := fun W => W.cell? ⟨ga, oa + 3, none⟩ = some (.int .i64 ha) ∧ W.cell? ⟨gb, ob + 3, none⟩ = some (.int .i64 hb)) (by kernel_rfl) (⟨xa, xb⟩) (fun hHeld => ?_)
    try simp only [Array.replicate, List.replicate]
    refine wpAnyH_take (i := 0) (v := ?_) rfl (by kernel_rfl) (by kernel_rfl) (by kernel_rfl) (fun _ _ _ h => h) (Or.inl ⟨by rfl, ?_⟩) (by assumption) ?_
    rotate_left
    · (intro w hSw; (try dsimp only at hSw); go_simp; try (with_reducible rfl))
    try simp only [Act.put, List.getElem_toArray, List.getElem_cons_succ, List.getElem_cons_zero, List.setIfInBounds_toArray, List.set_cons_succ, List.set_cons_zero]
    refine wpAnyH_take (i := 1) (v := ?_) rfl (by kernel_rfl) (by kernel_rfl) (by kernel_rfl) (fun _ _ _ h => h) (Or.inl ⟨by rfl, ?_⟩) (by assumption) ?_
    rotate_left
    · (intro w hSw; (try dsimp only at hSw); go_simp; try (with_reducible rfl))
    try simp only [Act.put, List.getElem_toArray, List.getElem_cons_succ, List.getElem_cons_zero, List.setIfInBounds_toArray, List.set_cons_succ, List.set_cons_zero]
    refine wpAnyH_take (i := 2) (v := ?_) rfl (by kernel_rfl) (by kernel_rfl) (by kernel_rfl) (fun _ _ _ h => h) (Or.inl ⟨by rfl, ?_⟩) (by assumption) ?_
    rotate_left
    · (intro w hSw; (try dsimp only at hSw); go_simp; try (with_reducible rfl))
    try simp only [Act.put, List.getElem_toArray, List.getElem_cons_succ, List.getElem_cons_zero, List.setIfInBounds_toArray, List.set_cons_succ, List.set_cons_zero]
    refine wpAnyH_take (i := 3) (v := ?_) rfl (by kernel_rfl) (by kernel_rfl) (by kernel_rfl) (fun _ _ _ h => h) (Or.inl ⟨by rfl, ?_⟩) (by assumption) ?_
    rotate_left
    · (intro w hSw; (try dsimp only at hSw); go_simp; try (with_reducible rfl))
    try simp only [Act.put, List.getElem_toArray, List.getElem_cons_succ, List.getElem_cons_zero, List.setIfInBounds_toArray, List.set_cons_succ, List.set_cons_zero]
    refine wpAnyH_take (i := 4) (v := ?_) rfl (by kernel_rfl) (by kernel_rfl) (by kernel_rfl) (fun _ _ _ h => h) (Or.inl ⟨by rfl, ?_⟩) (by assumption) ?_
    rotate_left
    · (intro w hSw; (try dsimp only at hSw); go_simp; try (with_reducible rfl))
    try simp only [Act.put, List.getElem_toArray, List.getElem_cons_succ, List.getElem_cons_zero, List.setIfInBounds_toArray, List.set_cons_succ, List.set_cons_zero]
    refine wpAnyH_take (i := 5) (v := ?_) rfl (by kernel_rfl) (by kernel_rfl) (by kernel_rfl) (fun _ _ _ h => h) (Or.inl ⟨by rfl, ?_⟩) (by assumption) ?_
    rotate_left
    · (intro w hSw; (try dsimp only at hSw); go_simp; try (with_reducible rfl))
    try simp only [Act.put, List.getElem_toArray, List.getElem_cons_succ, List.getElem_cons_zero, List.setIfInBounds_toArray, List.set_cons_succ, List.set_cons_zero]
    refine wpAnyH_take (i := 6) (v := ?_) rfl (by kernel_rfl) (by kernel_rfl) (by kernel_rfl) (fun _ _ _ h => h) (Or.inl ⟨by rfl, ?_⟩) (by assumption) ?_
    rotate_left
    · (intro w hSw; (try dsimp only at hSw); go_simp; try (with_reducible rfl))
    try simp only [Act.put, List.getElem_toArray, List.getElem_cons_succ, List.getElem_cons_zero, List.setIfInBounds_toArray, List.set_cons_succ, List.set_cons_zero]
    refine wpAnyH_take (i := 7) (v := ?_) rfl (by kernel_rfl) (by kernel_rfl) (by kernel_rfl) (fun _ _ _ h => h) (Or.inl ⟨by rfl, ?_⟩) (by assumption) ?_
    rotate_left
    · (intro w hSw; (try dsimp only at hSw); go_simp; try (with_reducible rfl))
    try simp only [Act.put, List.getElem_toArray, List.getElem_cons_succ, List.getElem_cons_zero, List.setIfInBounds_toArray, List.set_cons_succ, List.set_cons_zero]
    refine wpAnyH_take (i := 8) (v := ?_) rfl (by kernel_rfl) (by kernel_rfl) (by kernel_rfl) (fun _ _ _ h => h) (Or.inl ⟨by rfl, ?_⟩) (by assumption) ?_
    rotate_left
    · (intro w hSw; (try dsimp only at hSw); go_simp; try (with_reducible rfl))
    try simp only [Act.put, List.getElem_toArray, List.getElem_cons_succ, List.getElem_cons_zero, List.setIfInBounds_toArray, List.set_cons_succ, List.set_cons_zero]
    refine wpAnyH_ready (rs := [9]) (by kernel_rfl) (by simp) ?_
    refine AllReadyH.cons rfl (fun KQ hK => ?_) AllReadyH.nil
    go_simp
    (with_reducible first | refine (l10Size_is (by omega) (by omega) HS.out).mono ?_ | refine (l10Size_is (by rw [IntWalk.i64_left, IntWalk.wrap64_in _ ⟨by omega, by omega⟩]; omega) (by rw [IntWalk.i64_left, IntWalk.wrap64_in _ ⟨by omega, by omega⟩]; omega) HS2.out).mono ?_)
    rintro e w3 ⟨rfl, hw⟩
    obtain rfl := hw.symm
    refine hK.out _ _ (hHeld) (fun hHeld2 => ?_)
    clear hK KQ hHeld
    have hHeld := hHeld2
    clear hHeld2
    try simp only [Act.put, List.getElem_toArray, List.getElem_cons_succ, List.getElem_cons_zero, List.setIfInBounds_toArray, List.set_cons_succ, List.set_cons_zero]
    refine wpAnyH_take (i := 10) (v := .bool false) rfl (by kernel_rfl) (by kernel_rfl) (by kernel_rfl) (fun _ _ _ h => h) (Or.inl ⟨by rfl, (by intro w hSw; (try dsimp only at hSw); go_simp)⟩) (by assumption) ?_
    try simp only [Act.put, List.getElem_toArray, List.getElem_cons_succ, List.getElem_cons_zero, List.setIfInBounds_toArray, List.set_cons_succ, List.set_cons_zero]
    refine wpAnyH_take (i := 11) (v := ?_) rfl (by kernel_rfl) (by kernel_rfl) (by kernel_rfl) (fun _ _ _ h => h) (Or.inl ⟨by rfl, ?_⟩) (by assumption) ?_
    rotate_left
    · (intro w hSw; (try dsimp only at hSw); go_simp; try (with_reducible rfl))
    try simp only [Act.put, List.getElem_toArray, List.getElem_cons_succ, List.getElem_cons_zero, List.setIfInBounds_toArray, List.set_cons_succ, List.set_cons_zero]
    refine wpAnyH_take (i := 12) (v := undef) rfl (by kernel_rfl) (by kernel_rfl) (by kernel_rfl) (fun _ _ _ h => h) (Or.inr ⟨by rfl, rfl⟩) (by assumption) ?_
    try simp only [Act.put, List.getElem_toArray, List.getElem_cons_succ, List.getElem_cons_zero, List.setIfInBounds_toArray, List.set_cons_succ, List.set_cons_zero]
    refine wpAnyH_take (i := 13) (v := undef) rfl (by kernel_rfl) (by kernel_rfl) (by kernel_rfl) (fun _ _ _ h => h) (Or.inr ⟨by rfl, rfl⟩) (by assumption) ?_
    try simp only [Act.put, List.getElem_toArray, List.getElem_cons_succ, List.getElem_cons_zero, List.setIfInBounds_toArray, List.set_cons_succ, List.set_cons_zero]
    refine wpAnyH_take (i := 14) (v := undef) rfl (by kernel_rfl) (by kernel_rfl) (by kernel_rfl) (fun _ _ _ h => h) (Or.inr ⟨by rfl, rfl⟩) (by assumption) ?_
    try simp only [Act.put, List.getElem_toArray, List.getElem_cons_succ, List.getElem_cons_zero, List.setIfInBounds_toArray, List.set_cons_succ, List.set_cons_zero]
    refine wpAnyH_take (i := 15) (v := undef) rfl (by kernel_rfl) (by kernel_rfl) (by kernel_rfl) (fun _ _ _ h => h) (Or.inr ⟨by rfl, rfl⟩) (by assumption) ?_
    try simp only [Act.put, List.getElem_toArray, List.getElem_cons_succ, List.getElem_cons_zero, List.setIfInBounds_toArray, List.set_cons_succ, List.set_cons_zero]
    refine wpAnyH_take (i := 16) (v := undef) rfl (by kernel_rfl) (by kernel_rfl) (by kernel_rfl) (fun _ _ _ h => h) (Or.inr ⟨by rfl, rfl⟩) (by assumption) ?_
    try simp only [Act.put, List.getElem_toArray, List.getElem_cons_succ, List.getElem_cons_zero, List.setIfInBounds_toArray, List.set_cons_succ, List.set_cons_zero]
    refine wpAnyH_take (i := 17) (v := undef) rfl (by kernel_rfl) (by kernel_rfl) (by kernel_rfl) (fun _ _ _ h => h) (Or.inr ⟨by rfl, rfl⟩) (by assumption) ?_
    try simp only [Act.put, List.getElem_toArray, List.getElem_cons_succ, List.getElem_cons_zero, List.setIfInBounds_toArray, List.set_cons_succ, List.set_cons_zero]
    refine wpAnyH_take (i := 18) (v := undef) rfl (by kernel_rfl) (by kernel_rfl) (by kernel_rfl) (fun _ _ _ h => h) (Or.inr ⟨by rfl, rfl⟩) (by assumption) ?_
    try simp only [Act.put, List.getElem_toArray, List.getElem_cons_succ, List.getElem_cons_zero, List.setIfInBounds_toArray, List.set_cons_succ, List.set_cons_zero]
    refine wpAnyH_take (i := 19) (v := undef) rfl (by kernel_rfl) (by kernel_rfl) (by kernel_rfl) (fun _ _ _ h => h) (Or.inr ⟨by rfl, rfl⟩) (by assumption) ?_
    try simp only [Act.put, List.getElem_toArray, List.getElem_cons_succ, List.getElem_cons_zero, List.setIfInBounds_toArray, List.set_cons_succ, List.set_cons_zero]
    refine wpAnyH_take (i := 20) (v := ?_) rfl (by kernel_rfl) (by kernel_rfl) (by kernel_rfl) (fun _ _ _ h => h) (Or.inl ⟨by rfl, ?_⟩) (by assumption) ?_
    rotate_left
    · (intro w hSw; (try dsimp only at hSw); go_simp; try (with_reducible rfl))
    try simp only [Act.put, List.getElem_toArray, List.getElem_cons_succ, List.getElem_cons_zero, List.setIfInBounds_toArray, List.set_cons_succ, List.set_cons_zero]
    refine wpAnyH_done (by kernel_rfl) ?_ _
    clear xa xb
    have HB0 := hide (show Below w.heap.size w (World.drew w) from Joins.below_draws _ _ 1)
    have hzw : (World.drew w).heap.size = w.heap.size := rfl
    have HA1 := hide (show NmC (World.drew w) ga oa ca ha from HCA.out)
    have HB1 := hide (show NmC (World.drew w) gb ob cb hb from HCB.out)
    have c1a := HA1.out.2.2.2.1
    have c1b := HB1.out.2.2.2.1
    clear HCA HCB
    generalize World.drew w = w1 at *
    go_wp2_with fail
    have HQA := hide (show w1.cell? ⟨ga, oa + 3, none⟩ = some (.int .i64 ha) from c1a)
    have HQB := hide (show w1.cell? ⟨gb, ob + 3, none⟩ = some (.int .i64 hb) from c1b)
    have qa := HQA.out
    have qb := HQB.out
    by_cases g1 : ha < hb
    · go_wp2_with fail
      go_quiet (fail)
      go_wp2_with fail
      refine (l15Mast_is KA.out KB.out ha0 ha1 hD0 hD1 HM1.out (HA1.out.below (Joins.below_draws w1.heap.size _ _) (by omega)) (HB1.out.below (Joins.below_draws w1.heap.size _ _) (by omega))).mono ?_
      rintro e w9 ⟨rfl, hb9⟩
      clear qa qb
      go_wp2_with fail
      go_ret
      exact ⟨ret_bool (HT.out.a g1), below_fin hb9 (by repeat (first | (with_reducible exact HB0.out) | refine below_dN ?_ _))⟩
    · by_cases g2 : hb < ha
      · go_wp2_with fail
        go_quiet (fail)
        go_wp2_with fail
        go_quiet (fail)
        go_wp2_with fail
        refine (l15Mast_is KB.out KA.out hb0 hb1 hD0 hD1 HM2.out (HB1.out.below (Joins.below_draws w1.heap.size _ _) (by omega)) (HA1.out.below (Joins.below_draws w1.heap.size _ _) (by omega))).mono ?_
        rintro e w9 ⟨rfl, hb9⟩
        clear qa qb
        go_wp2_with fail
        go_ret
        exact ⟨ret_bool (HT.out.b g2), below_fin hb9 (by repeat (first | (with_reducible exact HB0.out) | refine below_dN ?_ _))⟩
      · go_wp2_with fail
        go_quiet (fail)
        go_wp2_with fail
        go_quiet (fail)
        go_wp2_with fail
        go_ret
        exact ⟨ret_bool (HT.out.c (by omega) (by omega)), (by repeat (first | (with_reducible exact HB0.out) | refine below_dN ?_ _))⟩
  · clear F1
    have HCAd := hide (show NmC (World.drew w) ga oa ca ha from HCA.out)
    have HCBd := hide (show NmC (World.drew w) gb ob cb hb from HCB.out)
    have hgbd : gb < (World.drew w).heap.size := hgb
    have HSS : Hid ((World.drew w).cell? ⟨ga, oa + 3, none⟩ = some (.int .i64 ha) ∧ (World.drew w).cell? ⟨gb, ob + 3, none⟩ = some (.int .i64 hb)) := hide ⟨xa, xb⟩
    clear xa xb
    have G2 := hide F2
    have G3 := hide (F3 hlt)
    clear F2 F3
    go_enter Tryz.func38, Tryz.ntmps38
    go_wp2_with fail
    go_region_held3 (fun W => W.cell? ⟨ga, oa + 3, none⟩ = some (.int .i64 ha) ∧ W.cell? ⟨gb, ob + 3, none⟩ = some (.int .i64 hb)) (with_reducible exact HSS.out) (first | (go_at_call 51; (with_reducible first | refine (l10Size_is (by omega) (by omega) HS.out).mono ?_ | refine (l10Size_is (by rw [IntWalk.i64_left, IntWalk.wrap64_in _ ⟨by omega, by omega⟩]; omega) (by rw [IntWalk.i64_left, IntWalk.wrap64_in _ ⟨by omega, by omega⟩]; omega) HS2.out).mono ?_); rintro e w3 ⟨rfl, hw⟩; obtain rfl := hw.symm) | (go_at_call 53; (with_reducible refine (l15Boom_is KA.out ha0 ha1 HP.out HCAd.out).mono ?_); rintro e w4 ⟨rfl, hq4⟩; have hz4 : w.heap.size ≤ w4.heap.size := hq4.size; have HSS : Hid (w4.cell? ⟨ga, oa + 3, none⟩ = some (.int .i64 ha) ∧ w4.cell? ⟨gb, ob + 3, none⟩ = some (.int .i64 hb)) := hide ⟨(hq4.cell (p := ⟨ga, oa + 3, none⟩) (by show ga < w.heap.size; omega)).trans HSS.out.1, (hq4.cell (p := ⟨gb, ob + 3, none⟩) (by show gb < w.heap.size; omega)).trans HSS.out.2⟩) | (go_at_call 53; (with_reducible refine (l15Boom_is KB.out hb0 hb1 HQ'.out (HCBd.out.below hq4 hgbd)).mono ?_); rintro e w5 ⟨rfl, hq5⟩; have hz5 : w4.heap.size ≤ w5.heap.size := hq5.size; have HSS : Hid (w5.cell? ⟨ga, oa + 3, none⟩ = some (.int .i64 ha) ∧ w5.cell? ⟨gb, ob + 3, none⟩ = some (.int .i64 hb)) := hide ⟨(hq5.cell (p := ⟨ga, oa + 3, none⟩) (by show ga < w4.heap.size; omega)).trans HSS.out.1, (hq5.cell (p := ⟨gb, ob + 3, none⟩) (by show gb < w4.heap.size; omega)).trans HSS.out.2⟩) | (go_at_call 52; (with_reducible refine (l14Near_is HCP.out HCQ.out hD0 hD1 HNR.out).mono ?_); rintro e w6 ⟨rfl, hq6⟩; have hz6 : w5.heap.size ≤ w6.heap.size := hq6.size; have HSS : Hid (w6.cell? ⟨ga, oa + 3, none⟩ = some (.int .i64 ha) ∧ w6.cell? ⟨gb, ob + 3, none⟩ = some (.int .i64 hb)) := hide ⟨(hq6.cell (p := ⟨ga, oa + 3, none⟩) (by show ga < w5.heap.size; omega)).trans HSS.out.1, (hq6.cell (p := ⟨gb, ob + 3, none⟩) (by show gb < w5.heap.size; omega)).trans HSS.out.2⟩))
    have hq : Below w.heap.size w w6 := (((Joins.below_draws _ _ 1 : Below w.heap.size w (World.drew w)).trans hq4).trans (hq5.mono hz4)).trans (hq6.mono (Nat.le_trans hz4 hz5))
    have hz : w.heap.size ≤ w6.heap.size := hq.size
    clear hq4 hq5 hq6 HSS
    have HA6 := hide (HCA.out.below hq hga)
    have HB6 := hide (HCB.out.below hq hgb)
    have c6a := HA6.out.2.2.2.1
    have c6b := HB6.out.2.2.2.1
    have HQ := hide hq
    clear hq
    cases yy
    · have HT := hide (G2.out (by simp))
      clear G2 G3
      have HQA := hide (show w6.cell? ⟨ga, oa + 3, none⟩ = some (.int .i64 ha) from c6a)
      have HQB := hide (show w6.cell? ⟨gb, ob + 3, none⟩ = some (.int .i64 hb) from c6b)
      have qa := HQA.out
      have qb := HQB.out
      by_cases g1 : ha < hb
      · go_wp2_with fail
        go_quiet (fail)
        go_wp2_with fail
        refine (l15Mast_is KA.out KB.out ha0 ha1 hD0 hD1 HM1.out (HA6.out.below (Joins.below_draws w6.heap.size _ _) (by omega)) (HB6.out.below (Joins.below_draws w6.heap.size _ _) (by omega))).mono ?_
        rintro e w9 ⟨rfl, hb9⟩
        clear qa qb
        go_wp2_with fail
        go_ret
        exact ⟨ret_bool (HT.out.a g1), below_fin hb9 (by repeat (first | (with_reducible exact HQ.out) | refine below_dN ?_ _))⟩
      · by_cases g2 : hb < ha
        · go_wp2_with fail
          go_quiet (fail)
          go_wp2_with fail
          go_quiet (fail)
          go_wp2_with fail
          refine (l15Mast_is KB.out KA.out hb0 hb1 hD0 hD1 HM2.out (HB6.out.below (Joins.below_draws w6.heap.size _ _) (by omega)) (HA6.out.below (Joins.below_draws w6.heap.size _ _) (by omega))).mono ?_
          rintro e w9 ⟨rfl, hb9⟩
          clear qa qb
          go_wp2_with fail
          go_ret
          exact ⟨ret_bool (HT.out.b g2), below_fin hb9 (by repeat (first | (with_reducible exact HQ.out) | refine below_dN ?_ _))⟩
        · go_wp2_with fail
          go_quiet (fail)
          go_wp2_with fail
          go_quiet (fail)
          go_wp2_with fail
          go_ret
          exact ⟨ret_bool (HT.out.c (by omega) (by omega)), (by repeat (first | (with_reducible exact HQ.out) | refine below_dN ?_ _))⟩
    · have HT := hide (G3.out (by simp))
      clear G2 G3
      clear c6a c6b
      go_wp2_with fail
      go_ret
      exact ⟨ret_bool (by first | exact HT.out | simpa using HT.out), HQ.out⟩


end Go.Proofs.YtajjophmngabbaaGreatDoor
