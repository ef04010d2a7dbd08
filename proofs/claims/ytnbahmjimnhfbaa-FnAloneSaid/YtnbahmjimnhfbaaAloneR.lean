/-
  AloneRoute: the reference's and the program's. No condition but those that each theorem names.
-/
import Derived.Test.YtnbahmjimnhfbaaAlone
namespace Go.Proofs.Ytnbahmjimnhfbaa
open Go.RowKit
set_option linter.unusedVariables false

def alR (u v : Int) : Int × Int := if u < 0 then (if v < 0 then (0, 3) else (v, 0)) else if v < 0 then (u, 0) else if v < u then (v, 0) else (u, 0)
/-- What AloneRoute answers. -/
def alP (T : List (List Bool)) (l : List Int) (t : Int) : Int × Int :=
  if okT T then (if stV l && inR t 0 23 then (if tg T (l.getD 0 0) (l.getD 1 0) || tg T t (l.getD 1 0) then (0, 10) else alR (alV T (l.getD 0 0) (l.getD 1 0) t 1) (alV T (l.getD 0 0) (l.getD 1 0) t (-1))) else (0, 2)) else (0, 8)
theorem ret_pr {a b : Int} {p : Int × Int} (h : p = (a, b)) : Ending.returned (.tuple #[.int .i64 a, .int .i64 b]) = .returned (.tuple #[.int .i64 p.1, .int .i64 p.2]) := by rw [h]
/-- A literal of two numbers that has just been laid. -/
theorem rd_lit2 (w : World) (x y : Int) (t : TypeId) : Rd (w.alloc (.cells #[.int .i64 x, .int .i64 y] t)) w.heap.size (w.heap.size + 1) 1 (some ⟨w.heap.size, 0, none⟩) 2 (rInt64 [x, y]) := by
  refine ⟨rfl, fun _ => ⟨w.heap.size, 0, rfl, Nat.le_refl _, Nat.lt_succ_self _, fun j u hu => ?_⟩⟩
  rw [Nat.zero_add, new_cell]
  match j, hu with
  | 0, hu => exact hu
  | 1, hu => exact hu
  | _ + 2, hu => simp [rInt64, rows, cInt64] at hu

set_option maxRecDepth 100000 in
set_option maxHeartbeats 4000000 in
theorem implAloneRoute_any (A A1 : Option Addr) (n c lo hi n1 c1 l1 h1 : Nat) (T : List (List Bool)) (l : List Int) (t : Int) (hm : n ≤ maxLen) (hl : l.length = n1) (hm1 : n1 ≤ maxLen) (w : World) (h : RdSS w lo hi A n (rrBool T)) (hhi : hi ≤ w.heap.size) (hr : Rd w l1 h1 1 A1 n1 (rInt64 l)) (hh1 : h1 ≤ w.heap.size) :
    Calls Try.prog 23 #[.slice A n c, .slice A1 n1 c1, .int .i64 t] w fun e w' => e = .returned (.tuple #[.int .i64 (alP T l t).1, .int .i64 (alP T l t).2]) ∧ Below w.heap.size w w' := by
  have H2 := hide h
  have HR := hide hr
  have HL := hide hl
  clear h hr hl
  cases e0 : okT T
  case false =>
    go_enter Try.func23, Try.ntmps23
    go_wp2_with (first | (go_at_call 56; refine (implValidTable_any _ _ c lo hi T hm _ H2.out).mono ?_; rintro e w' ⟨rfl, hw⟩; obtain rfl := hw.symm; rw [e0]) | (go_at_call 49; refine (isState_any _ _ c1 l1 h1 _ HL.out hm1 _ HR.out).mono ?_; rintro e w' ⟨rfl, hw⟩; obtain rfl := hw.symm; rw [e1]) | (go_at_call 61; refine (isDirection_any _ _).mono ?_; rintro e w' ⟨rfl, hw⟩; obtain rfl := hw.symm; rw [e2]))
    go_ret2
    exact ⟨ret_pr (by simp [alP, *]), Below.refl _ _⟩
  cases e1 : stV l
  case false =>
    go_enter Try.func23, Try.ntmps23
    go_wp2_with (first | (go_at_call 56; refine (implValidTable_any _ _ c lo hi T hm _ H2.out).mono ?_; rintro e w' ⟨rfl, hw⟩; obtain rfl := hw.symm; rw [e0]) | (go_at_call 49; refine (isState_any _ _ c1 l1 h1 _ HL.out hm1 _ HR.out).mono ?_; rintro e w' ⟨rfl, hw⟩; obtain rfl := hw.symm; rw [e1]) | (go_at_call 61; refine (isDirection_any _ _).mono ?_; rintro e w' ⟨rfl, hw⟩; obtain rfl := hw.symm; rw [e2]))
    go_ret2
    exact ⟨ret_pr (by simp [alP, *]), Below.refl _ _⟩
  cases e2 : inR t 0 23
  case false =>
    go_enter Try.func23, Try.ntmps23
    go_wp2_with (first | (go_at_call 56; refine (implValidTable_any _ _ c lo hi T hm _ H2.out).mono ?_; rintro e w' ⟨rfl, hw⟩; obtain rfl := hw.symm; rw [e0]) | (go_at_call 49; refine (isState_any _ _ c1 l1 h1 _ HL.out hm1 _ HR.out).mono ?_; rintro e w' ⟨rfl, hw⟩; obtain rfl := hw.symm; rw [e1]) | (go_at_call 61; refine (isDirection_any _ _).mono ?_; rintro e w' ⟨rfl, hw⟩; obtain rfl := hw.symm; rw [e2]))
    go_ret2
    exact ⟨ret_pr (by simp [alP, *]), Below.refl _ _⟩
  obtain ⟨x, y, rfl, hx0, hx1, hy0, hy1⟩ := stV_two e1
  obtain ⟨ht0, ht1⟩ := inR_true e2
  obtain rfl : n1 = 2 := HL.out.symm
  have HO := hide e0
  obtain rfl := tab_n H2.out HO.out
  obtain ⟨bs, os, rfl, _, hbs, s0, s1⟩ := st_cells HR.out
  have hg0 : ([x, y] : List Int).getD 0 0 = x := rfl
  have hg1 : ([x, y] : List Int).getD 1 0 = y := rfl
  have HP : Hid (∀ v1 v2 : Bool, tg T x y = v1 → tg T t y = v2 → (v1 || v2) = true → alP T [x, y] t = (0, 10)) := hide (by intro v1 v2 g1 g2 g3; simp only [alP, e0, e1, e2, hg0, hg1, g1, g2, g3]; rfl)
  have HQ : Hid (tg T x y = false → tg T t y = false → alP T [x, y] t = alR (alV T x y t 1) (alV T x y t (-1))) := hide (by intro g1 g2; simp only [alP, e0, e1, e2, hg0, hg1, g1, g2]; rfl)
  clear hg0 hg1
  have HW := hide (show RdSS w lo hi A 24 (rrBool T) ∧ Rd w l1 h1 1 (some ⟨bs, os, none⟩) 2 (rInt64 [x, y]) from ⟨H2.out, HR.out⟩)
  cases v1 : tg T x y
  case true =>
    go_enter Try.func23, Try.ntmps23
    go_wp2_with (first | (go_at_call 56; refine (implValidTable_any _ _ c lo hi T hm _ H2.out).mono ?_; rintro e w' ⟨rfl, hw⟩; obtain rfl := hw.symm; rw [e0]) | (go_at_call 49; refine (isState_any _ _ c1 l1 h1 _ HL.out hm1 _ HR.out).mono ?_; rintro e w' ⟨rfl, hw⟩; obtain rfl := hw.symm; rw [e1]) | (go_at_call 61; refine (isDirection_any _ _).mono ?_; rintro e w' ⟨rfl, hw⟩; obtain rfl := hw.symm; rw [e2]))
    refine (safe_any _ _ 24 c c1 lo hi l1 h1 T HO.out x y (by omega) (by omega) (by omega) (by omega) _ H2.out HR.out).mono ?_
    rintro e w1 ⟨rfl, hb1⟩
    rw [v1]
    have hs1 := hb1.size
    have hB1 : Below w.heap.size w w1 := hb1
    have hz1 := hB1.size
    have H2_1 := hide (HW.out.1.below hB1 hhi)
    have HR_1 := hide (HW.out.2.below hB1 hh1)
    go_wp2_with fail
    go_ret2
    exact ⟨ret_pr (HP.out _ _ v1 rfl (by simp)), hB1⟩
  cases v2 : tg T t y
  case true =>
    go_enter Try.func23, Try.ntmps23
    go_wp2_with (first | (go_at_call 56; refine (implValidTable_any _ _ c lo hi T hm _ H2.out).mono ?_; rintro e w' ⟨rfl, hw⟩; obtain rfl := hw.symm; rw [e0]) | (go_at_call 49; refine (isState_any _ _ c1 l1 h1 _ HL.out hm1 _ HR.out).mono ?_; rintro e w' ⟨rfl, hw⟩; obtain rfl := hw.symm; rw [e1]) | (go_at_call 61; refine (isDirection_any _ _).mono ?_; rintro e w' ⟨rfl, hw⟩; obtain rfl := hw.symm; rw [e2]))
    refine (safe_any _ _ 24 c c1 lo hi l1 h1 T HO.out x y (by omega) (by omega) (by omega) (by omega) _ H2.out HR.out).mono ?_
    rintro e w1 ⟨rfl, hb1⟩
    rw [v1]
    have hs1 := hb1.size
    have hB1 : Below w.heap.size w w1 := hb1
    have hz1 := hB1.size
    have H2_1 := hide (HW.out.1.below hB1 hhi)
    have HR_1 := hide (HW.out.2.below hB1 hh1)
    have s1' := (hB1.cell (p := ⟨bs, os + 1, none⟩) (by show bs < _; omega)).trans s1
    go_wp2_with fail
    have hal : Below w.heap.size w (w1.alloc (.cells #[.int .i64 t, .int .i64 y] 2)) := hB1.alloc (by omega) _
    refine (safe_any _ _ 24 c 2 lo hi w1.heap.size (w1.heap.size + 1) T HO.out t y (by omega) (by omega) (by omega) (by omega) _ (HW.out.1.below hal hhi) (rd_lit2 w1 t y _)).mono ?_
    rintro e w2 ⟨rfl, hb2⟩
    rw [v2]
    clear hal
    have hs2 := hb2.size
    have hB2 : Below w.heap.size w w2 := (hB1.alloc (by omega) _).trans (hb2.mono (by simp; omega))
    have hz2 := hB2.size
    have H2_2 := hide (HW.out.1.below hB2 hhi)
    have HR_2 := hide (HW.out.2.below hB2 hh1)
    go_wp2_with fail
    go_ret2
    exact ⟨ret_pr (HP.out _ _ v1 v2 (by simp)), hB2⟩
  have HF := hide (HQ.out v1 v2)
  obtain ⟨ub1, ub2⟩ := alV_bd T x y t 1
  obtain ⟨vb1, vb2⟩ := alV_bd T x y t (-1)
  obtain ⟨u, hu⟩ : ∃ u, alV T x y t 1 = u := ⟨_, rfl⟩
  obtain ⟨v, hv⟩ : ∃ v, alV T x y t (-1) = v := ⟨_, rfl⟩
  rw [hu, hv] at HF
  rw [hu] at ub1 ub2
  rw [hv] at vb1 vb2
  have HU := hide hu
  have HV := hide hv
  clear hu hv
  go_enter Try.func23, Try.ntmps23
  go_wp2_with (first | (go_at_call 56; refine (implValidTable_any _ _ c lo hi T hm _ H2.out).mono ?_; rintro e w' ⟨rfl, hw⟩; obtain rfl := hw.symm; rw [e0]) | (go_at_call 49; refine (isState_any _ _ c1 l1 h1 _ HL.out hm1 _ HR.out).mono ?_; rintro e w' ⟨rfl, hw⟩; obtain rfl := hw.symm; rw [e1]) | (go_at_call 61; refine (isDirection_any _ _).mono ?_; rintro e w' ⟨rfl, hw⟩; obtain rfl := hw.symm; rw [e2]))
  refine (safe_any _ _ 24 c c1 lo hi l1 h1 T HO.out x y (by omega) (by omega) (by omega) (by omega) _ H2.out HR.out).mono ?_
  rintro e w1 ⟨rfl, hb1⟩
  rw [v1]
  have hs1 := hb1.size
  have hB1 : Below w.heap.size w w1 := hb1
  have hz1 := hB1.size
  have H2_1 := hide (HW.out.1.below hB1 hhi)
  have HR_1 := hide (HW.out.2.below hB1 hh1)
  have s1' := (hB1.cell (p := ⟨bs, os + 1, none⟩) (by show bs < _; omega)).trans s1
  go_wp2_with fail
  have hal : Below w.heap.size w (w1.alloc (.cells #[.int .i64 t, .int .i64 y] 2)) := hB1.alloc (by omega) _
  refine (safe_any _ _ 24 c 2 lo hi w1.heap.size (w1.heap.size + 1) T HO.out t y (by omega) (by omega) (by omega) (by omega) _ (HW.out.1.below hal hhi) (rd_lit2 w1 t y _)).mono ?_
  rintro e w2 ⟨rfl, hb2⟩
  rw [v2]
  clear hal
  have hs2 := hb2.size
  have hB2 : Below w.heap.size w w2 := (hB1.alloc (by omega) _).trans (hb2.mono (by simp; omega))
  have hz2 := hB2.size
  have H2_2 := hide (HW.out.1.below hB2 hhi)
  have HR_2 := hide (HW.out.2.below hB2 hh1)
  clear v1 v2 s1 s1' s0
  go_wp2_with fail
  refine (alone_any _ 24 c lo hi (some ⟨bs, os, none⟩) c1 l1 h1 T HO.out x y t (1) (by omega) (by omega) (by omega) (by omega) (by omega) (by omega) (by simp) _ H2_2.out (by omega) HR_2.out (by omega)).mono ?_
  rintro e w3 ⟨rfl, hb3⟩
  have hs3 := hb3.size
  have hB3 : Below w.heap.size w w3 := hB2.trans (hb3.mono (by omega))
  have hz3 := hB3.size
  have H2_3 := hide (HW.out.1.below hB3 hhi)
  have HR_3 := hide (HW.out.2.below hB3 hh1)
  rw [HU.out]
  go_wp2_with fail
  refine (alone_any _ 24 c lo hi (some ⟨bs, os, none⟩) c1 l1 h1 T HO.out x y t (-1) (by omega) (by omega) (by omega) (by omega) (by omega) (by omega) (by simp) _ H2_3.out (by omega) HR_3.out (by omega)).mono ?_
  rintro e w4 ⟨rfl, hb4⟩
  have hs4 := hb4.size
  have hB4 : Below w.heap.size w w4 := hB3.trans (hb4.mono (by omega))
  have hz4 := hB4.size
  have H2_4 := hide (HW.out.1.below hB4 hhi)
  have HR_4 := hide (HW.out.2.below hB4 hh1)
  rw [HV.out]
  go_wp2_with fail
  refine (least2_any w4.heap.size 0 2 u v _ (new_cell w4 _ _ 0) (new_cell w4 _ _ 1)).mono ?_
  rintro e w' ⟨rfl, hw⟩
  obtain rfl := hw.symm
  have hB5 : Below w.heap.size w (w4.alloc (.cells #[.int .i64 u, .int .i64 v] 2)) := hB4.alloc (by omega) _
  have hz5 := hB5.size
  have H2_5 := hide (HW.out.1.below hB5 hhi)
  have HR_5 := hide (HW.out.2.below hB5 hh1)
  by_cases p1 : u < 0
  · by_cases p2 : v < 0
    · skip
      have HZ := hide (show alP T [x, y] t = (0, 3) from HF.out.trans (by simp [alR, p1, p2]))
      rw [show lsV u v = -1 by simp [lsV, p1, p2]]
      go_wp2_with fail
      go_ret2
      exact ⟨ret_pr HZ.out, hB5⟩
    · skip
      have HZ := hide (show alP T [x, y] t = (v, 0) from HF.out.trans (by simp [alR, p1, p2]))
      rw [show lsV u v = 1 by simp [lsV, p1, p2]]
      go_wp2_with fail
      refine (alone_any _ 24 c lo hi (some ⟨bs, os, none⟩) c1 l1 h1 T HO.out x y t (-1) (by omega) (by omega) (by omega) (by omega) (by omega) (by omega) (by simp) _ H2_5.out (by omega) HR_5.out (by omega)).mono ?_
      rintro e w6 ⟨rfl, hb6⟩
      rw [HV.out]
      go_wp2_with fail
      go_ret2
      exact ⟨ret_pr HZ.out, hB5.trans (hb6.mono (by omega))⟩
  · by_cases p2 : v < 0
    · skip
      have HZ := hide (show alP T [x, y] t = (u, 0) from HF.out.trans (by simp [alR, p1, p2]))
      rw [show lsV u v = 0 by simp [lsV, p1, p2]]
      go_wp2_with fail
      refine (alone_any _ 24 c lo hi (some ⟨bs, os, none⟩) c1 l1 h1 T HO.out x y t (1) (by omega) (by omega) (by omega) (by omega) (by omega) (by omega) (by simp) _ H2_5.out (by omega) HR_5.out (by omega)).mono ?_
      rintro e w6 ⟨rfl, hb6⟩
      rw [HU.out]
      go_wp2_with fail
      go_ret2
      exact ⟨ret_pr HZ.out, hB5.trans (hb6.mono (by omega))⟩
    · by_cases p3 : v < u
      · skip
        have HZ := hide (show alP T [x, y] t = (v, 0) from HF.out.trans (by simp [alR, p1, p2, p3]))
        rw [show lsV u v = 1 by simp [lsV, p1, p2, p3]]
        go_wp2_with fail
        refine (alone_any _ 24 c lo hi (some ⟨bs, os, none⟩) c1 l1 h1 T HO.out x y t (-1) (by omega) (by omega) (by omega) (by omega) (by omega) (by omega) (by simp) _ H2_5.out (by omega) HR_5.out (by omega)).mono ?_
        rintro e w6 ⟨rfl, hb6⟩
        rw [HV.out]
        go_wp2_with fail
        go_ret2
        exact ⟨ret_pr HZ.out, hB5.trans (hb6.mono (by omega))⟩
      · skip
        have HZ := hide (show alP T [x, y] t = (u, 0) from HF.out.trans (by simp [alR, p1, p2, p3]))
        rw [show lsV u v = 0 by simp [lsV, p1, p2, p3]]
        go_wp2_with fail
        refine (alone_any _ 24 c lo hi (some ⟨bs, os, none⟩) c1 l1 h1 T HO.out x y t (1) (by omega) (by omega) (by omega) (by omega) (by omega) (by omega) (by simp) _ H2_5.out (by omega) HR_5.out (by omega)).mono ?_
        rintro e w6 ⟨rfl, hb6⟩
        rw [HU.out]
        go_wp2_with fail
        go_ret2
        exact ⟨ret_pr HZ.out, hB5.trans (hb6.mono (by omega))⟩

end Go.Proofs.Ytnbahmjimnhfbaa
