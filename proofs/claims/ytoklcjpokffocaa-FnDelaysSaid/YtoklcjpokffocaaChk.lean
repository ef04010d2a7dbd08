/-
  CheckRoute: the reference's and the program's. No condition but those that each theorem names.
-/
import Derived.Test.YtoklcjpokffocaaStp
import Derived.Test.YtoklcjpokffocaaFamSInt64
namespace Go.Proofs.Ytoklcjpokffocaa
open Go.RowKit
set_option linter.unusedVariables false

/-- The two numbers of a row. -/
def r0 (R : List (List Int)) (i : Nat) : Int := (R.getD i []).getD 0 0
def r1 (R : List (List Int)) (i : Nat) : Int := (R.getD i []).getD 1 0
/-- Is the i-th state of a route a safe state that a step from the one before leads to? -/
def crOk (T : List (List Bool)) (R : List (List Int)) (i : Nat) : Bool := stV (R.getD i []) && (!(tg T (r0 R i) (r1 R i)) && (decide (i = 0) || stp T (r0 R (i - 1)) (r1 R (i - 1)) (r0 R i) (r1 R i)))
def crV (T : List (List Bool)) (R : List (List Int)) : Int := match (List.range R.length).find? (fun i => !(crOk T R i)) with | some i => (i : Int) | none => -1
/-- What CheckRoute answers. -/
def crP (T : List (List Bool)) (R : List (List Int)) : Int × Int := if okT T then (if inR R.length 1 1000 then (crV T R, 0) else (0, 2)) else (0, 8)
theorem crV_bad {T : List (List Bool)} {R : List (List Int)} {k : Nat} (hk : k < R.length) (h : ∀ i, i < k → crOk T R i = true) (hb : crOk T R k = false) : crV T R = k := by
  unfold crV
  cases e : (List.range R.length).find? (fun i => !(crOk T R i)) with
  | none =>
    have := List.find?_eq_none.1 e k (List.mem_range.2 hk)
    simp [hb] at this
  | some j =>
    have hj : crOk T R j = false := by simpa using List.find?_some e
    obtain ⟨_, i, hi, h2, h3⟩ := List.find?_eq_some_iff_getElem.1 e
    have hij : i = j := by simpa using h2
    subst hij
    rcases Nat.lt_trichotomy i k with h4 | h4 | h4
    · rw [h i h4] at hj; cases hj
    · simp [h4]
    · have := h3 k h4
      simp [hb] at this
theorem crV_end {T : List (List Bool)} {R : List (List Int)} (h : ∀ i, i < R.length → crOk T R i = true) : crV T R = -1 := by
  unfold crV
  rw [List.find?_eq_none.2]
  intro i hi
  simp [h i (List.mem_range.1 hi)]
theorem ret_pr2 {a b : Int} {p : Int × Int} (h : p = (a, b)) : Ending.returned (.tuple #[.int .i64 a, .int .i64 b]) = .returned (.tuple #[.int .i64 p.1, .int .i64 p.2]) := by rw [h]
theorem l17State_v (A : Option Addr) (n c lo hi : Nat) (l : List Int) (hl : l.length = n) (hm : n ≤ maxLen) (v : Bool) (hv : stV l = v) (w : World) (h : Rd w lo hi 1 A n (rInt64 l)) :
    Calls Try.prog 34 #[.slice A n c] w fun e w' => e = .returned (.bool v) ∧ w' = w := hv ▸ l17State_any A n c lo hi l hl hm w h
theorem RdSS.drewN2 {w : World} {lo hi n : Nat} {A : Option Addr} {rs : List (List Value)} (h : RdSS w lo hi A n rs) (k : Nat) : RdSS (w.drewN k) lo hi A n rs := h
theorem crOk_mk {T : List (List Bool)} {R : List (List Int)} {i : Nat} {v1 v2 v3 : Bool} (h1 : stV (R.getD i []) = v1) (h2 : tg T (r0 R i) (r1 R i) = v2) (h3 : (decide (i = 0) || stp T (r0 R (i - 1)) (r1 R (i - 1)) (r0 R i) (r1 R i)) = v3) : crOk T R i = (v1 && (!v2 && v3)) := by
  unfold crOk; rw [h1, h2, h3]
theorem crOk_no {T : List (List Bool)} {R : List (List Int)} {i : Nat} (h1 : stV (R.getD i []) = false) : crOk T R i = false := by
  unfold crOk; rw [h1]; rfl
theorem crOk_hit {T : List (List Bool)} {R : List (List Int)} {i : Nat} (h2 : tg T (r0 R i) (r1 R i) = true) : crOk T R i = false := by
  unfold crOk; rw [h2]; simp
theorem rows_smallI {l : List (List Int)} {n : Nat} (hl : (rrInt64 l).length = n) {q : Int} (h : (n : Int) + (tot (rrInt64 l) n : Nat) ≤ q) : ∀ r ∈ l, (r.length : Int) ≤ q := by
  intro r hr
  obtain ⟨i, hi, rfl⟩ := List.mem_iff_getElem.1 hr
  rw [rrInt64_len] at hl
  have h1 := tot_succ (rrInt64 l) i (by rw [rrInt64_len]; exact hi)
  have h2 := tot_mono (rrInt64 l) (show i + 1 ≤ n by omega)
  rw [rrInt64_at, rInt64_len1] at h1
  rw [show l.getD i [] = l[i] by simp [List.getD, hi]] at h1
  omega
theorem crOk_st {T : List (List Bool)} {R : List (List Int)} {i : Nat} (h : crOk T R i = true) : stV (R.getD i []) = true := by
  unfold crOk at h; rw [Bool.and_eq_true] at h; exact h.1

set_option maxRecDepth 100000 in
set_option maxHeartbeats 8000000 in
theorem implCheckRoute_any (A A1 : Option Addr) (n c lo hi n1 c1 l1 h1 : Nat) (T : List (List Bool)) (R : List (List Int)) (hm : n ≤ maxLen) (hm1 : n1 ≤ maxLen) (w : World) (h : RdSS w lo hi A n (rrBool T)) (hhi : hi ≤ w.heap.size) (hr : RdSS w l1 h1 A1 n1 (rrInt64 R)) (hh1 : h1 ≤ w.heap.size) :
    Calls Try.prog 16 #[.slice A n c, .slice A1 n1 c1] w fun e w' => e = .returned (.tuple #[.int .i64 (crP T R).1, .int .i64 (crP T R).2]) ∧ Below w.heap.size w w' := by
  have hl : R.length = n1 := by have := hr.length; rw [rrInt64_len] at this; exact this
  unfold maxLen at hm1
  have H2 := hide h
  have HR := hide hr
  have HL := hide hl
  clear h hr hl
  have HP : Hid (∀ v1 v2 : Bool, okT T = v1 → inR (n1 : Int) 1 1000 = v2 → crP T R = if v1 then (if v2 then (crV T R, 0) else (0, 2)) else (0, 8)) := hide (by intro v1 v2 g1 g2; simp only [crP, HL.out, g1, g2])
  cases e0 : okT T
  case false =>
    have HV := hide (HP.out _ _ e0 rfl)
    go_enter Try.func16, Try.ntmps16
    go_wp2_with (first | (go_at_call 37; refine (implValidTable_any _ _ c lo hi T hm _ H2.out).mono ?_; rintro e w' ⟨rfl, hw⟩; obtain rfl := hw.symm; rw [e0]) | (go_at_call 29; refine (within_any _ _ _ _).mono ?_; rintro e w' ⟨rfl, hw⟩; obtain rfl := hw.symm; rw [e1]))
    go_ret2
    exact ⟨ret_pr2 HV.out, Below.refl _ _⟩
  cases e1 : inR (n1 : Int) 1 1000
  case false =>
    have HV := hide (HP.out _ _ e0 e1)
    go_enter Try.func16, Try.ntmps16
    go_wp2_with (first | (go_at_call 37; refine (implValidTable_any _ _ c lo hi T hm _ H2.out).mono ?_; rintro e w' ⟨rfl, hw⟩; obtain rfl := hw.symm; rw [e0]) | (go_at_call 29; refine (within_any _ _ _ _).mono ?_; rintro e w' ⟨rfl, hw⟩; obtain rfl := hw.symm; rw [e1]))
    go_ret2
    exact ⟨ret_pr2 HV.out, Below.refl _ _⟩
  have HV := hide (show crP T R = (crV T R, 0) from HP.out _ _ e0 e1)
  have HO := hide e0
  obtain ⟨hq0, hq1⟩ := inR_true e1
  obtain rfl := tab_n H2.out HO.out
  go_enter Try.func16, Try.ntmps16
  go_wp2_with (first | (go_at_call 37; refine (implValidTable_any _ _ c lo hi T hm _ H2.out).mono ?_; rintro e w' ⟨rfl, hw⟩; obtain rfl := hw.symm; rw [e0]) | (go_at_call 29; refine (within_any _ _ _ _).mono ?_; rintro e w' ⟨rfl, hw⟩; obtain rfl := hw.symm; rw [e1]))
  clear e1 HP
  go_loopw [19] (fun i wr => ∃ k : Nat, k ≤ n1 ∧ i = .int .i64 k ∧ Hid (∀ i, i < k → crOk T R i = true) ∧ Below w.heap.size w wr) (fun i _ => n1 - (intOf i).toNat)
  case atStart => exact ⟨0, by omega, rfl, hide (by intro i hi; omega), Below.refl _ _⟩
  case round =>
    obtain ⟨k, hk, rfl, HA, hbr⟩ := hrel
    have hsz := hbr.size
    have H2r := hide (H2.out.below hbr hhi)
    have HRr := hide (HR.out.below hbr hh1)
    by_cases hlt : k < n1
    · skip
      obtain ⟨b1, o1, Ai, ni, ci, hA1, _, hb1, hc, hnm, hni, hrr⟩ := HRr.out.at_ hlt
      rw [rrInt64_at, rInt64_len1] at hni
      rw [rrInt64_at] at hrr
      subst hA1
      cases e3 : stV (R.getD k [])
      · have HB := hide (crOk_no (T := T) e3)
        have HE := hide e3
        have HNI := hide hni.symm
        have HRW := hide hrr
        clear e3 hni hrr
        go_wp2_with fail
        refine (isState_any _ _ ci l1 h1 _ HNI.out hnm _ HRW.out).mono ?_
        rintro e w' ⟨rfl, hw⟩
        obtain rfl := hw.symm
        rw [HE.out]
        go_wp2_with fail
        go_ret2
        exact ⟨ret_pr2 (by rw [HV.out, crV_bad (k := k) (by have := HL.out; omega) HA.out HB.out]), hbr⟩
      obtain ⟨x, y, hxy, hx0, hx1, hy0, hy1⟩ := stV_two e3
      have hr0 : r0 R k = x := by unfold r0; rw [hxy]; rfl
      have hr1 : r1 R k = y := by unfold r1; rw [hxy]; rfl
      have HE := hide e3
      have HNI := hide hni.symm
      have HRW := hide hrr
      rw [hxy] at hrr hni
      obtain rfl : ni = 2 := hni
      have HRS := hide hrr
      clear hrr e3 hxy
      cases v1 : tg T x y
      case true =>
        have HB := hide (crOk_hit (T := T) (R := R) (i := k) (by rw [hr0, hr1]; exact v1))
        have HV1 := hide v1
        clear v1 hr0 hr1
        go_wp2_with fail
        refine (isState_any _ _ ci l1 h1 _ HNI.out hnm _ HRW.out).mono ?_
        rintro e w' ⟨rfl, hw⟩
        obtain rfl := hw.symm
        rw [HE.out]
        go_wp2_with fail
        refine (safe_any _ _ 24 c ci lo hi l1 h1 T HO.out x y (by omega) (by omega) (by omega) (by omega) _ H2r.out HRS.out).mono ?_
        rintro e w1 ⟨rfl, hq1⟩
        rw [HV1.out]
        replace hbr := hbr.trans (hq1.mono hsz)
        have hs1 := hbr.size
        go_wp2_with fail
        go_ret2
        exact ⟨ret_pr2 (by rw [HV.out, crV_bad (k := k) (by have := HL.out; omega) HA.out HB.out]), hbr⟩
      cases k with
      | zero =>
        rw [Nat.add_zero] at hc
        have HB : Hid (crOk T R 0 = true) := hide (by rw [crOk_mk (v1 := true) (v2 := false) (v3 := true) HE.out (by rw [hr0, hr1]; exact v1) (by simp)]; rfl)
        have HV1 := hide v1
        clear v1 hr0 hr1
        go_wp2_with fail
        refine (isState_any _ _ ci l1 h1 _ HNI.out hnm _ HRW.out).mono ?_
        rintro e w' ⟨rfl, hw⟩
        obtain rfl := hw.symm
        rw [HE.out]
        go_wp2_with fail
        refine (safe_any _ _ 24 c ci lo hi l1 h1 T HO.out x y (by omega) (by omega) (by omega) (by omega) _ H2r.out HRS.out).mono ?_
        rintro e w1 ⟨rfl, hq1⟩
        rw [HV1.out]
        replace hbr := hbr.trans (hq1.mono hsz)
        have hs1 := hbr.size
        go_wp2_with fail
        go_roundw
        case rel => exact ⟨0 + 1, by omega, by go_num, hide (fun i hi => by
            by_cases e : i = 0
            · subst e; exact HB.out
            · exact HA.out i (by omega)), hbr⟩
        case measure => simp [intOf]; omega
      | succ j =>
        obtain ⟨x', y', hxy', hx0', hx1', hy0', hy1'⟩ := stV_two (crOk_st (HA.out j (by omega)))
        obtain ⟨b1', o1', Aj, nj, cj, hA1', _, _, hcj, hnmj, hnj, hrj⟩ := HRr.out.at_ (show j < n1 by omega)
        obtain ⟨rfl, rfl⟩ : b1 = b1' ∧ o1 = o1' := by simpa using hA1'
        rw [rrInt64_at, rInt64_len1] at hnj
        rw [rrInt64_at] at hrj
        rw [hxy'] at hrj hnj
        obtain rfl : nj = 2 := hnj
        have hs0 : r0 R j = x' := by unfold r0; rw [hxy']; rfl
        have hs1 : r1 R j = y' := by unfold r1; rw [hxy']; rfl
        have HRJ := hide hrj
        clear hrj hA1' hxy'
        cases hst : stp T x' y' x y
        case false =>
          have HB : Hid (crOk T R (j + 1) = false) := hide (by rw [crOk_mk (v1 := true) (v2 := false) (v3 := false) HE.out (by rw [hr0, hr1]; exact v1) (by rw [hr0, hr1, Nat.add_sub_cancel, hs0, hs1, hst]; simp)]; rfl)
          have HST := hide hst
          have HV1 := hide v1
          clear v1 hr0 hr1 hs0 hs1 hst
          go_wp2_with fail
          refine (isState_any _ _ ci l1 h1 _ HNI.out hnm _ HRW.out).mono ?_
          rintro e w' ⟨rfl, hw⟩
          obtain rfl := hw.symm
          rw [HE.out]
          go_wp2_with fail
          refine (safe_any _ _ 24 c ci lo hi l1 h1 T HO.out x y (by omega) (by omega) (by omega) (by omega) _ H2r.out HRS.out).mono ?_
          rintro e w1 ⟨rfl, hq1⟩
          rw [HV1.out]
          replace hbr := hbr.trans (hq1.mono hsz)
          have hs1w := hbr.size
          replace hcj := (hq1.cell (p := ⟨b1, o1 + j, none⟩) (by show b1 < _; omega)).trans hcj
          go_wp2_with fail
          refine (allowed_any _ _ _ 24 c cj ci lo hi l1 h1 l1 h1 T HO.out x' y' x y (by omega) (by omega) (by omega) (by omega) (by omega) (by omega) (by omega) (by omega) _ (H2r.out.below hq1 (by omega)) (by omega) (HRJ.out.below hq1 (by omega)) (by omega) (HRS.out.below hq1 (by omega)) (by omega)).mono ?_
          rintro e w2 ⟨rfl, hq2⟩
          rw [HST.out]
          replace hbr := hbr.trans (hq2.mono hs1w)
          go_wp2_with fail
          go_ret2
          exact ⟨ret_pr2 (by rw [HV.out, crV_bad (k := j + 1) (by have := HL.out; omega) HA.out HB.out] <;> simp), hbr⟩
        have HB : Hid (crOk T R (j + 1) = true) := hide (by rw [crOk_mk (v1 := true) (v2 := false) (v3 := true) HE.out (by rw [hr0, hr1]; exact v1) (by rw [hr0, hr1, Nat.add_sub_cancel, hs0, hs1, hst]; simp)]; rfl)
        have HST := hide hst
        have HV1 := hide v1
        clear v1 hr0 hr1 hs0 hs1 hst
        go_wp2_with fail
        refine (isState_any _ _ ci l1 h1 _ HNI.out hnm _ HRW.out).mono ?_
        rintro e w' ⟨rfl, hw⟩
        obtain rfl := hw.symm
        rw [HE.out]
        go_wp2_with fail
        refine (safe_any _ _ 24 c ci lo hi l1 h1 T HO.out x y (by omega) (by omega) (by omega) (by omega) _ H2r.out HRS.out).mono ?_
        rintro e w1 ⟨rfl, hq1⟩
        rw [HV1.out]
        replace hbr := hbr.trans (hq1.mono hsz)
        have hs1w := hbr.size
        replace hcj := (hq1.cell (p := ⟨b1, o1 + j, none⟩) (by show b1 < _; omega)).trans hcj
        go_wp2_with fail
        refine (allowed_any _ _ _ 24 c cj ci lo hi l1 h1 l1 h1 T HO.out x' y' x y (by omega) (by omega) (by omega) (by omega) (by omega) (by omega) (by omega) (by omega) _ (H2r.out.below hq1 (by omega)) (by omega) (HRJ.out.below hq1 (by omega)) (by omega) (HRS.out.below hq1 (by omega)) (by omega)).mono ?_
        rintro e w2 ⟨rfl, hq2⟩
        rw [HST.out]
        replace hbr := hbr.trans (hq2.mono hs1w)
        go_wp2_with fail
        go_roundw
        case rel => exact ⟨(j + 1) + 1, by omega, by go_num, hide (fun i hi => by
            by_cases e : i = (j + 1)
            · subst e; exact HB.out
            · exact HA.out i (by omega)), hbr⟩
        case measure => simp [intOf]; omega
    · obtain rfl : k = n1 := by omega
      have HW := hide (crV_end (T := T) (R := R) (fun i hi => HA.out i (by have := HL.out; omega)))
      go_wp2_with fail
      go_ret2
      exact ⟨ret_pr2 (by rw [HV.out, HW.out]), hbr⟩

end Go.Proofs.Ytoklcjpokffocaa
