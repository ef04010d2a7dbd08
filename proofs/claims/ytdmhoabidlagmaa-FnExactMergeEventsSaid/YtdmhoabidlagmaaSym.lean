/-
  SYMMERGE of events: two pieces in order, one behind the other, become one. No condition but those that each theorem names.
-/
import Derived.Test.YtdmhoabidlagmaaIns
namespace Go.Proofs.Ytdmhoabidlagmaa
open Go.RowKit
set_option linter.unusedVariables false
set_option linter.unusedSimpArgs false

/-- An event put into a list in order: behind those that are not later, or ahead of those that are not earlier. -/
theorem ins_back {S : List Evt} {x : Evt} {q : Nat} (hS : Srt S) (hq : q ≤ S.length) (hle : ∀ i (h : i < S.length), i < q → S[i].1 ≤ x.1) (hgt : ∀ i (h : i < S.length), q ≤ i → x.1 < S[i].1) : S.take q ++ x :: S.drop q = stS (S ++ [x]) := by
  have hsplit : Srt (S.take q ++ S.drop q) := by rw [List.take_append_drop]; exact hS
  obtain ⟨s1, s2, s3⟩ := Srt.app.1 hsplit
  have h1 : ∀ e ∈ S.take q, e.1 ≤ x.1 := by
    intro e he
    obtain ⟨i, hi, rfl⟩ := List.getElem_of_mem he
    rw [List.length_take] at hi
    rw [List.getElem_take]
    exact hle i (by omega) (by omega)
  have h2 : ∀ e ∈ S.drop q, x.1 < e.1 := by
    intro e he
    obtain ⟨i, hi, rfl⟩ := List.getElem_of_mem he
    rw [List.length_drop] at hi
    rw [List.getElem_drop]
    exact hgt _ (by omega) (by omega)
  refine st_eq (Srt.app.2 ⟨s1, Srt.cons.2 ⟨fun y hy => by have := h2 y hy; omega, s2⟩, fun y hy z hz => ?_⟩) ?_
  · rcases List.mem_cons.1 hz with rfl | hz
    · exact h1 y hy
    · exact s3 y hy z hz
  · have : S ++ [x] = S.take q ++ (S.drop q ++ [x]) := by rw [← List.append_assoc, List.take_append_drop]
    rw [this]
    refine Sm.app (Sm.refl _) (Sm.swap (U := S.drop q) (V := [x]) ?_)
    intro u hu v hv
    obtain rfl : v = x := by simpa using hv
    exact h2 u hu
theorem ins_front {S : List Evt} {x : Evt} {q : Nat} (hS : Srt S) (hq : q ≤ S.length) (hlt : ∀ i (h : i < S.length), i < q → S[i].1 < x.1) (hge : ∀ i (h : i < S.length), q ≤ i → x.1 ≤ S[i].1) : S.take q ++ x :: S.drop q = stS (x :: S) := by
  have hsplit : Srt (S.take q ++ S.drop q) := by rw [List.take_append_drop]; exact hS
  obtain ⟨s1, s2, s3⟩ := Srt.app.1 hsplit
  have h1 : ∀ e ∈ S.take q, e.1 < x.1 := by
    intro e he
    obtain ⟨i, hi, rfl⟩ := List.getElem_of_mem he
    rw [List.length_take] at hi
    rw [List.getElem_take]
    exact hlt i (by omega) (by omega)
  have h2 : ∀ e ∈ S.drop q, x.1 ≤ e.1 := by
    intro e he
    obtain ⟨i, hi, rfl⟩ := List.getElem_of_mem he
    rw [List.length_drop] at hi
    rw [List.getElem_drop]
    exact hge _ (by omega) (by omega)
  refine st_eq (Srt.app.2 ⟨s1, Srt.cons.2 ⟨fun y hy => h2 y hy, s2⟩, fun y hy z hz => ?_⟩) ?_
  · rcases List.mem_cons.1 hz with rfl | hz
    · have := h1 y hy; omega
    · exact s3 y hy z hz
  · have e1 : S.take q ++ x :: S.drop q = (S.take q ++ [x]) ++ S.drop q := by simp
    have e2 : x :: S = ([x] ++ S.take q) ++ S.drop q := by rw [List.append_assoc, List.take_append_drop]; rfl
    rw [e1, e2]
    refine Sm.app (Sm.swap (U := [x]) (V := S.take q) ?_) (Sm.refl _)
    intro u hu v hv
    obtain rfl : u = x := by simpa using hu
    exact h1 v hv
theorem fI_swap2 (X S : List Evt) (x : Evt) (R : List Evt) (q : Nat) (hq : q < S.length) : swp (fI X S x R q) (X.length + q) (X.length + (q + 1)) = fI X S x R (q + 1) := by
  have e1 : fI X S x R (q + 1) = (X ++ S.take q) ++ S[q] :: ([] ++ x :: (S.drop (q + 1) ++ R)) := by
    unfold fI
    rw [List.take_succ_eq_append_getElem hq]; simp only [List.append_assoc, List.cons_append, List.nil_append]
  have e2 : fI X S x R q = (X ++ S.take q) ++ x :: ([] ++ S[q] :: (S.drop (q + 1) ++ R)) := by
    unfold fI
    rw [List.drop_eq_getElem_cons hq]; simp only [List.append_assoc, List.cons_append, List.nil_append]
  have l : (X ++ S.take q).length = X.length + q := by rw [List.length_append, List.length_take]; omega
  have := swp_split (X ++ S.take q) [] (S.drop (q + 1) ++ R) x S[q]
  rw [l] at this
  rw [e1, e2]
  exact this
theorem fI_z (X S : List Evt) (x : Evt) (R : List Evt) (q : Nat) (hq : q < S.length) : (fI X S x R q).getD (X.length + (q + 1)) zE = S[q] := by
  unfold fI
  rw [List.getD_eq_getElem?_getD, List.getElem?_append_right (by omega), Nat.add_sub_cancel_left, List.append_assoc, List.getElem?_append_right (by rw [List.length_take]; omega), List.length_take, Nat.min_eq_left (by omega), Nat.add_sub_cancel_left, List.cons_append, List.getElem?_cons_succ, List.getElem?_append_left (by rw [List.length_drop]; omega), List.getElem?_drop, Nat.add_zero, List.getElem?_eq_getElem hq]
  rfl
theorem srt_le {L : List Evt} (h : Srt L) {i j : Nat} (hij : i ≤ j) (hj : j < L.length) : (L[i]'(by omega)).1 ≤ L[j].1 := by
  have := srt_kev.1 h i j hij hj
  rwa [kev_at (by omega), kev_at hj] at this
/-- The events of two pieces, by their places. -/
theorem pc_1 {X M1 M2 Y : List Evt} {a h : Nat} (ha : X.length = a) (h1 : a ≤ h) (h2 : h - a < M1.length) : (X ++ (M1 ++ (M2 ++ Y))).getD h zE = M1[h - a] := by
  subst ha
  rw [List.getD_eq_getElem?_getD, List.getElem?_append_right h1, List.getElem?_append_left h2, List.getElem?_eq_getElem h2]
  rfl
theorem pc_2 {X M1 M2 Y : List Evt} {a m h : Nat} (ha : X.length = a) (hm : a + M1.length = m) (h1 : m ≤ h) (h2 : h - m < M2.length) : (X ++ (M1 ++ (M2 ++ Y))).getD h zE = M2[h - m] := by
  subst ha hm
  rw [List.getD_eq_getElem?_getD, List.getElem?_append_right (by omega), List.getElem?_append_right (by omega), show h - X.length - M1.length = h - (X.length + M1.length) by omega, List.getElem?_append_left h2, List.getElem?_eq_getElem h2]
  rfl

set_option maxRecDepth 100000 in
set_option maxHeartbeats 4000000 in
theorem symMerge_one (g n c lo : Nat) (X M2 Y : List Evt) (x : Evt) (a m b : Nat) (ha : X.length = a) (hm : a + 1 ≤ m) (hm' : m ≤ a + 1) (hb : m + M2.length = b) (hs2 : Srt M2) (hn : n ≤ 4096) (w : World) (h : w.ownsRow lo 33 4 (.slice (some ⟨g, 0, none⟩) n c) n (rEvent (X ++ ([x] ++ (M2 ++ Y))))) :
    Calls Try.prog 22 #[.slice (some ⟨g, 0, none⟩) n c, .int .i64 a, .int .i64 m, .int .i64 b, .func (.func 16) #[] #[]] w fun e w' => e = .returned (.tuple #[]) ∧ w'.ownsRow lo 33 4 (.slice (some ⟨g, 0, none⟩) n c) n (rEvent (X ++ (stS ([x] ++ M2) ++ Y))) ∧ w.grownBy w' (some g) := by
  have HL : (X ++ ([x] ++ (M2 ++ Y))).length = n := by have := h.1; rw [rEvent_length] at this; omega
  have hbn : b ≤ n := by simp at HL; omega
  have hmb : m ≤ b := by omega
  have H := hide h
  have HA := hide (And.intro ha (And.intro hb hs2))
  clear h HL ha hb hs2
  go_enter Try.func22, Try.ntmps22
  have z1 : ((m : Int) - (a : Int) == 1) = true := by simp; omega
  go_wp2_with fail
  go_loopw [10, 11, 12] (fun si sj _ wr => ∃ i j : Nat, m ≤ i ∧ i ≤ j ∧ j ≤ b ∧ si = .int .i64 (i : Int) ∧ sj = .int .i64 (j : Int) ∧ Hid (∀ k (h : k < M2.length), k < i - m → M2[k].1 < x.1) ∧ Hid (∀ k (h : k < M2.length), j - m ≤ k → x.1 ≤ M2[k].1) ∧ Hid (wr.ownsRow lo 33 4 (.slice (some ⟨g, 0, none⟩) n c) n (rEvent (X ++ ([x] ++ (M2 ++ Y))))) ∧ Hid (w.grownBy wr (some g))) (fun si sj _ _ => (intOf sj).toNat - (intOf si).toNat)
  case atStart => exact ⟨m, b, by omega, by omega, by omega, rfl, rfl, hide (by intro k _ hk; omega), hide (by intro k hk hk2; have := HA.out.2.1; omega), H, hide (gb_refl _ _)⟩
  case round =>
    clear H
    obtain ⟨i, j, hi1, hij, hjb, rfl, rfl, HLO, HHI, HO, HG⟩ := hrel
    by_cases hlt : i < j
    · have z2 : (i : Int) < (j : Int) := by omega
      go_wp2_with fail
      obtain ⟨H, hH1, hH2⟩ : ∃ H : Nat, 2 * H ≤ i + j ∧ i + j ≤ 2 * H + 1 := ⟨(i + j) / 2, by omega, by omega⟩
      have hHi : ((i : Int) + (j : Int)) / 2 = (H : Int) := by omega
      rw [hHi]
      clear hHi
      have hHl : H - m < M2.length := by have := HA.out.2.1; omega
      obtain ⟨y, hy0⟩ : ∃ y, M2[H - m] = y := ⟨_, rfl⟩
      have hx : (X ++ ([x] ++ (M2 ++ Y))).getD H zE = y := by rw [← hy0]; exact pc_2 (M1 := [x]) HA.out.1 (show a + [x].length = m by simp; omega) (by omega) hHl
      have hy : (X ++ ([x] ++ (M2 ++ Y))).getD a zE = x := by have := pc_1 (M1 := [x]) (M2 := M2) (Y := Y) (h := a) HA.out.1 (Nat.le_refl _) (by simp); rw [this]; simp
      have HYS := hide hy0
      clear hy0
      obtain ⟨y0, y1, y2, y3⟩ := y
      obtain ⟨x0, x1, x2, x3⟩ := x
      have b1 : H < n := by omega
      have b2 : a < n := by omega
      obtain ⟨c0, c1, c2, c3⟩ := se_cells HO.out (by omega) hx
      obtain ⟨d0, d1, d2, d3⟩ := se_cells HO.out (by omega) hy
      have HS8 : Hid ((fun W => W.cell? ⟨g, H * 4, none⟩ = some (.int .i64 y0) ∧ W.cell? ⟨g, H * 4 + 1, none⟩ = some (.int .i64 y1) ∧ W.cell? ⟨g, H * 4 + 2, none⟩ = some (.int .i64 y2) ∧ W.cell? ⟨g, H * 4 + 3, none⟩ = some (.int .i64 y3) ∧ W.cell? ⟨g, a * 4, none⟩ = some (.int .i64 x0) ∧ W.cell? ⟨g, a * 4 + 1, none⟩ = some (.int .i64 x1) ∧ W.cell? ⟨g, a * 4 + 2, none⟩ = some (.int .i64 x2) ∧ W.cell? ⟨g, a * 4 + 3, none⟩ = some (.int .i64 x3)) wr) := hide ⟨c0, c1, c2, c3, d0, d1, d2, d3⟩
      have hgs : g < wr.heap.size := (HO.out.lt g rfl).2
      have HCM := hide (show Calls Try.prog 16 #[.agg #[.int .i64 y0, .int .i64 y1, .int .i64 y2, .int .i64 y3], .agg #[.int .i64 x0, .int .i64 x1, .int .i64 x2, .int .i64 x3]] (World.drew wr) fun e w' => e = .returned (.int .i64 (cmpE (y0, y1, y2, y3) (x0, x1, x2, x3))) ∧ Below wr.heap.size wr w' from (compareEvents_any (y0, y1, y2, y3) (x0, x1, x2, x3) _).mono (fun e w' h => ⟨h.1, (Joins.below_draws _ _ 1 : Below wr.heap.size wr wr.drew).trans h.2⟩))
      clear c0 c1 c2 c3 d0 d1 d2 d3
      have HX := hide hx
      have HY := hide hy
      clear hx hy
      go_wp2_with fail
      go_region_held3 (fun W => W.cell? ⟨g, H * 4, none⟩ = some (.int .i64 y0) ∧ W.cell? ⟨g, H * 4 + 1, none⟩ = some (.int .i64 y1) ∧ W.cell? ⟨g, H * 4 + 2, none⟩ = some (.int .i64 y2) ∧ W.cell? ⟨g, H * 4 + 3, none⟩ = some (.int .i64 y3) ∧ W.cell? ⟨g, a * 4, none⟩ = some (.int .i64 x0) ∧ W.cell? ⟨g, a * 4 + 1, none⟩ = some (.int .i64 x1) ∧ W.cell? ⟨g, a * 4 + 2, none⟩ = some (.int .i64 x2) ∧ W.cell? ⟨g, a * 4 + 3, none⟩ = some (.int .i64 x3)) (first | exact HS8.out | exact HS9.out) (first | (go_at_call 16; (with_reducible refine HCM.out.mono ?_); rintro e w6 ⟨rfl, hb6⟩; have HO6 := hide (owns_below HO.out hb6); have HG6 := hide (gb_trans HG.out (gb_below hb6 _)); have HS9 : Hid ((fun W => W.cell? ⟨g, H * 4, none⟩ = some (.int .i64 y0) ∧ W.cell? ⟨g, H * 4 + 1, none⟩ = some (.int .i64 y1) ∧ W.cell? ⟨g, H * 4 + 2, none⟩ = some (.int .i64 y2) ∧ W.cell? ⟨g, H * 4 + 3, none⟩ = some (.int .i64 y3) ∧ W.cell? ⟨g, a * 4, none⟩ = some (.int .i64 x0) ∧ W.cell? ⟨g, a * 4 + 1, none⟩ = some (.int .i64 x1) ∧ W.cell? ⟨g, a * 4 + 2, none⟩ = some (.int .i64 x2) ∧ W.cell? ⟨g, a * 4 + 3, none⟩ = some (.int .i64 x3)) w6) := hide ⟨(hb6.cell (p := ⟨g, H * 4, none⟩) hgs).trans HS8.out.1, (hb6.cell (p := ⟨g, H * 4 + 1, none⟩) hgs).trans HS8.out.2.1, (hb6.cell (p := ⟨g, H * 4 + 2, none⟩) hgs).trans HS8.out.2.2.1, (hb6.cell (p := ⟨g, H * 4 + 3, none⟩) hgs).trans HS8.out.2.2.2.1, (hb6.cell (p := ⟨g, a * 4, none⟩) hgs).trans HS8.out.2.2.2.2.1, (hb6.cell (p := ⟨g, a * 4 + 1, none⟩) hgs).trans HS8.out.2.2.2.2.2.1, (hb6.cell (p := ⟨g, a * 4 + 2, none⟩) hgs).trans HS8.out.2.2.2.2.2.2.1, (hb6.cell (p := ⟨g, a * 4 + 3, none⟩) hgs).trans HS8.out.2.2.2.2.2.2.2⟩; clear hb6))
      rw [cmpE_lt]
      clear HO HG HS8 HCM hgs
      by_cases hc : y0 < x0
      · rw [show decide ((y0, y1, y2, y3).1 < (x0, x1, x2, x3).1) = true from decide_eq_true hc]
        have HLO2 : Hid (∀ k (h : k < M2.length), k < H + 1 - m → M2[k].1 < x0) := hide (by
          intro k h hk
          have := srt_le HA.out.2.2 (i := k) (j := H - m) (by omega) hHl
          rw [HYS.out] at this
          exact Int.lt_of_le_of_lt this hc)
        clear hc HLO
        go_wp2_with fail
        go_roundw
        case rel => exact ⟨H + 1, j, by omega, by omega, by omega, by go_num, rfl, HLO2, HHI, HO6, HG6⟩
        case measure => simp [intOf]; omega
      · rw [show decide ((y0, y1, y2, y3).1 < (x0, x1, x2, x3).1) = false from decide_eq_false hc]
        have HHI2 : Hid (∀ k (h : k < M2.length), H - m ≤ k → x0 ≤ M2[k].1) := hide (by
          intro k h hk
          have := srt_le HA.out.2.2 (i := H - m) (j := k) (by omega) h
          rw [HYS.out] at this
          have hc' : ¬ y0 < x0 := hc
          have h2 : x0 ≤ y0 := by omega
          exact Int.le_trans h2 this)
        clear hc HHI
        go_wp2_with fail
        go_roundw
        case rel => exact ⟨i, H, by omega, by omega, by omega, rfl, by go_num, HLO, HHI2, HO6, HG6⟩
        case measure => simp [intOf]; omega
    · have z2 : ¬ (i : Int) < (j : Int) := by omega
      have hij2 : j ≤ i := by omega
      obtain ⟨t, ht1, ht2⟩ : ∃ t, m + t ≤ i ∧ i ≤ m + t := ⟨i - m, by omega, by omega⟩
      have htl : t ≤ M2.length := by have := HA.out.2.1; omega
      have HEND : Hid (fI X M2 x Y t = X ++ (stS ([x] ++ M2) ++ Y)) := hide (by
        unfold fI
        rw [ins_front HA.out.2.2 htl (fun k h hk => HLO.out k h (by omega)) (fun k h hk => HHI.out k h (by omega))]
        rfl)
      have HO0 := hide (show wr.ownsRow lo 33 4 (.slice (some ⟨g, 0, none⟩) n c) n (rEvent (fI X M2 x Y 0)) by unfold fI; simpa using HO.out)
      have HXL := hide HA.out.1
      clear HLO HHI HO
      generalize wr = w5 at *
      go_wp2_with fail
      go_loopw [13] (fun sk wr => ∃ k s : Nat, a + s ≤ k ∧ k ≤ a + s ∧ s ≤ t ∧ sk = .int .i64 (k : Int) ∧ Hid (wr.ownsRow lo 33 4 (.slice (some ⟨g, 0, none⟩) n c) n (rEvent (fI X M2 x Y s))) ∧ Hid (w.grownBy wr (some g))) (fun sk _ => i - (intOf sk).toNat)
      case atStart => exact ⟨a, 0, by omega, by omega, by omega, rfl, HO0, HG⟩
      case round =>
        clear HO0 HG
        obtain ⟨k, s, hk1, hk2, hst, rfl, HO, HG⟩ := hrel
        by_cases hlt2 : s < t
        · have z3 : (k : Int) < (i : Int) - 1 := by omega
          have hsM : s < M2.length := by omega
          obtain ⟨y, hy0⟩ : ∃ y, M2[s] = y := ⟨_, rfl⟩
          have ek : k = a + s := by omega
          have hx : (fI X M2 x Y s).getD k zE = x := by rw [ek, ← HXL.out]; exact fI_x X M2 x Y s (by omega)
          have hy : (fI X M2 x Y s).getD (k + 1) zE = y := by rw [ek, ← HXL.out, ← hy0, Nat.add_assoc]; exact fI_z X M2 x Y s hsM
          have hsw : swp (fI X M2 x Y s) k (k + 1) = fI X M2 x Y (s + 1) := by rw [ek, ← HXL.out, Nat.add_assoc]; exact fI_swap2 X M2 x Y s hsM
          have HSW := hide hsw
          clear hsw ek hy0
          obtain ⟨x0, x1, x2, x3⟩ := x
          obtain ⟨y0, y1, y2, y3⟩ := y
          obtain ⟨c0, c1, c2, c3⟩ := se_cells HO.out (by omega) hx
          obtain ⟨d0, d1, d2, d3⟩ := se_cells HO.out (by omega) hy
          have HX := hide hx
          have HY := hide hy
          clear hx hy
          have b1 : k < n := by omega
          have b2 : k + 1 < n := by omega
          have b3 : (k : Int) + 1 < (n : Int) := by omega
          have fz := fun j => HO.out.frozenAt j
          go_wp2_with fail
          go_region
          obtain ⟨V, hV⟩ : ∃ V, ((((((((wr.setCell ⟨g, k * 4, none⟩ (.int .i64 y0)).setCell ⟨g, k * 4 + 1, none⟩ (.int .i64 y1)).setCell ⟨g, k * 4 + 2, none⟩ (.int .i64 y2)).setCell ⟨g, k * 4 + 3, none⟩ (.int .i64 y3)).setCell ⟨g, (k + 1) * 4, none⟩ (.int .i64 x0)).setCell ⟨g, (k + 1) * 4 + 1, none⟩ (.int .i64 x1)).setCell ⟨g, (k + 1) * 4 + 2, none⟩ (.int .i64 x2)).setCell ⟨g, (k + 1) * 4 + 3, none⟩ (.int .i64 x3)) = V := ⟨_, rfl⟩
          obtain ⟨hs, hg⟩ := se_swap HO.out (by omega) (by omega) HX.out HY.out hV
          rw [hV]
          rw [HSW.out] at hs
          have HS := hide (show (World.drew V).ownsRow lo 33 4 (.slice (some ⟨g, 0, none⟩) n c) n (rEvent (fI X M2 (x0, x1, x2, x3) Y (s + 1))) from hs)
          have HG2 := hide (gb_drew (gb_trans HG.out hg))
          clear hs hg hV c0 c1 c2 c3 d0 d1 d2 d3 fz HO HG
          generalize World.drew V = WV at *
          go_wp2_with fail
          go_roundw
          case rel => exact ⟨k + 1, s + 1, by omega, by omega, by omega, by go_num, HS, HG2⟩
          case measure => simp [intOf]; omega
        · obtain rfl : s = t := by omega
          have z3 : ¬ (k : Int) < (i : Int) - 1 := by omega
          have HS := hide (show wr.ownsRow lo 33 4 (.slice (some ⟨g, 0, none⟩) n c) n (rEvent (X ++ (stS ([x] ++ M2) ++ Y))) by rw [← HEND.out]; exact HO.out)
          go_wp2_with fail
          refine bodyPost_ret (v := .tuple #[]) (results_none (by rfl) _ _ _) rfl ?_
          exact ⟨rfl, HS.out, HG.out⟩

set_option maxRecDepth 100000 in
set_option maxHeartbeats 4000000 in
theorem symMerge_two (g n c lo : Nat) (X M1 Y : List Evt) (x : Evt) (a m b : Nat) (ha : X.length = a) (hm : a + M1.length = m) (h2 : 2 ≤ M1.length) (hb : b ≤ m + 1) (hb' : m + 1 ≤ b) (hs1 : Srt M1) (hn : n ≤ 4096) (w : World) (h : w.ownsRow lo 33 4 (.slice (some ⟨g, 0, none⟩) n c) n (rEvent (X ++ (M1 ++ ([x] ++ Y))))) :
    Calls Try.prog 22 #[.slice (some ⟨g, 0, none⟩) n c, .int .i64 a, .int .i64 m, .int .i64 b, .func (.func 16) #[] #[]] w fun e w' => e = .returned (.tuple #[]) ∧ w'.ownsRow lo 33 4 (.slice (some ⟨g, 0, none⟩) n c) n (rEvent (X ++ (stS (M1 ++ [x]) ++ Y))) ∧ w.grownBy w' (some g) := by
  have HL : (X ++ (M1 ++ ([x] ++ Y))).length = n := by have := h.1; rw [rEvent_length] at this; omega
  have hbn : b ≤ n := by simp at HL; omega
  have ham : a + 2 ≤ m := by omega
  have H := hide h
  have HA := hide (And.intro ha (And.intro hm hs1))
  clear h HL ha hm hs1 h2
  go_enter Try.func22, Try.ntmps22
  have z0 : ((m : Int) - (a : Int) == 1) = false := by simp; omega
  have z1 : ((b : Int) - (m : Int) == 1) = true := by simp; omega
  go_wp2_with fail
  go_loopw [14, 15, 16] (fun si sj _ wr => ∃ i j : Nat, a ≤ i ∧ i ≤ j ∧ j ≤ m ∧ si = .int .i64 (i : Int) ∧ sj = .int .i64 (j : Int) ∧ Hid (∀ k (h : k < M1.length), k < i - a → M1[k].1 ≤ x.1) ∧ Hid (∀ k (h : k < M1.length), j - a ≤ k → x.1 < M1[k].1) ∧ Hid (wr.ownsRow lo 33 4 (.slice (some ⟨g, 0, none⟩) n c) n (rEvent (X ++ (M1 ++ ([x] ++ Y))))) ∧ Hid (w.grownBy wr (some g))) (fun si sj _ _ => (intOf sj).toNat - (intOf si).toNat)
  case atStart => exact ⟨a, m, by omega, by omega, by omega, rfl, rfl, hide (by intro k _ hk; omega), hide (by intro k hk hk2; have := HA.out.2.1; omega), H, hide (gb_refl _ _)⟩
  case round =>
    clear H
    obtain ⟨i, j, hi1, hij, hjb, rfl, rfl, HLO, HHI, HO, HG⟩ := hrel
    by_cases hlt : i < j
    · have z2 : (i : Int) < (j : Int) := by omega
      go_wp2_with fail
      obtain ⟨H, hH1, hH2⟩ : ∃ H : Nat, 2 * H ≤ i + j ∧ i + j ≤ 2 * H + 1 := ⟨(i + j) / 2, by omega, by omega⟩
      have hHi : ((i : Int) + (j : Int)) / 2 = (H : Int) := by omega
      rw [hHi]
      clear hHi
      have hHl : H - a < M1.length := by have := HA.out.2.1; omega
      obtain ⟨y, hy0⟩ : ∃ y, M1[H - a] = y := ⟨_, rfl⟩
      have hy : (X ++ (M1 ++ ([x] ++ Y))).getD H zE = y := by rw [← hy0]; exact pc_1 (M2 := [x]) HA.out.1 (by omega) hHl
      have hx : (X ++ (M1 ++ ([x] ++ Y))).getD m zE = x := by have := pc_2 (M1 := M1) (M2 := [x]) (Y := Y) (h := m) HA.out.1 HA.out.2.1 (Nat.le_refl _) (by simp); rw [this]; simp
      have HYS := hide hy0
      clear hy0
      obtain ⟨y0, y1, y2, y3⟩ := y
      obtain ⟨x0, x1, x2, x3⟩ := x
      have b1 : H < n := by omega
      have b2 : m < n := by omega
      obtain ⟨c0, c1, c2, c3⟩ := se_cells HO.out (by omega) hx
      obtain ⟨d0, d1, d2, d3⟩ := se_cells HO.out (by omega) hy
      have HS8 : Hid ((fun W => W.cell? ⟨g, m * 4, none⟩ = some (.int .i64 x0) ∧ W.cell? ⟨g, m * 4 + 1, none⟩ = some (.int .i64 x1) ∧ W.cell? ⟨g, m * 4 + 2, none⟩ = some (.int .i64 x2) ∧ W.cell? ⟨g, m * 4 + 3, none⟩ = some (.int .i64 x3) ∧ W.cell? ⟨g, H * 4, none⟩ = some (.int .i64 y0) ∧ W.cell? ⟨g, H * 4 + 1, none⟩ = some (.int .i64 y1) ∧ W.cell? ⟨g, H * 4 + 2, none⟩ = some (.int .i64 y2) ∧ W.cell? ⟨g, H * 4 + 3, none⟩ = some (.int .i64 y3)) wr) := hide ⟨c0, c1, c2, c3, d0, d1, d2, d3⟩
      have hgs : g < wr.heap.size := (HO.out.lt g rfl).2
      have HCM := hide (show Calls Try.prog 16 #[.agg #[.int .i64 x0, .int .i64 x1, .int .i64 x2, .int .i64 x3], .agg #[.int .i64 y0, .int .i64 y1, .int .i64 y2, .int .i64 y3]] (World.drew wr) fun e w' => e = .returned (.int .i64 (cmpE (x0, x1, x2, x3) (y0, y1, y2, y3))) ∧ Below wr.heap.size wr w' from (compareEvents_any (x0, x1, x2, x3) (y0, y1, y2, y3) _).mono (fun e w' h => ⟨h.1, (Joins.below_draws _ _ 1 : Below wr.heap.size wr wr.drew).trans h.2⟩))
      clear c0 c1 c2 c3 d0 d1 d2 d3
      have HX := hide hx
      have HY := hide hy
      clear hx hy
      go_wp2_with fail
      go_region_held3 (fun W => W.cell? ⟨g, m * 4, none⟩ = some (.int .i64 x0) ∧ W.cell? ⟨g, m * 4 + 1, none⟩ = some (.int .i64 x1) ∧ W.cell? ⟨g, m * 4 + 2, none⟩ = some (.int .i64 x2) ∧ W.cell? ⟨g, m * 4 + 3, none⟩ = some (.int .i64 x3) ∧ W.cell? ⟨g, H * 4, none⟩ = some (.int .i64 y0) ∧ W.cell? ⟨g, H * 4 + 1, none⟩ = some (.int .i64 y1) ∧ W.cell? ⟨g, H * 4 + 2, none⟩ = some (.int .i64 y2) ∧ W.cell? ⟨g, H * 4 + 3, none⟩ = some (.int .i64 y3)) (first | exact HS8.out | exact HS9.out) (first | (go_at_call 16; (with_reducible refine HCM.out.mono ?_); rintro e w6 ⟨rfl, hb6⟩; have HO6 := hide (owns_below HO.out hb6); have HG6 := hide (gb_trans HG.out (gb_below hb6 _)); have HS9 : Hid ((fun W => W.cell? ⟨g, m * 4, none⟩ = some (.int .i64 x0) ∧ W.cell? ⟨g, m * 4 + 1, none⟩ = some (.int .i64 x1) ∧ W.cell? ⟨g, m * 4 + 2, none⟩ = some (.int .i64 x2) ∧ W.cell? ⟨g, m * 4 + 3, none⟩ = some (.int .i64 x3) ∧ W.cell? ⟨g, H * 4, none⟩ = some (.int .i64 y0) ∧ W.cell? ⟨g, H * 4 + 1, none⟩ = some (.int .i64 y1) ∧ W.cell? ⟨g, H * 4 + 2, none⟩ = some (.int .i64 y2) ∧ W.cell? ⟨g, H * 4 + 3, none⟩ = some (.int .i64 y3)) w6) := hide ⟨(hb6.cell (p := ⟨g, m * 4, none⟩) hgs).trans HS8.out.1, (hb6.cell (p := ⟨g, m * 4 + 1, none⟩) hgs).trans HS8.out.2.1, (hb6.cell (p := ⟨g, m * 4 + 2, none⟩) hgs).trans HS8.out.2.2.1, (hb6.cell (p := ⟨g, m * 4 + 3, none⟩) hgs).trans HS8.out.2.2.2.1, (hb6.cell (p := ⟨g, H * 4, none⟩) hgs).trans HS8.out.2.2.2.2.1, (hb6.cell (p := ⟨g, H * 4 + 1, none⟩) hgs).trans HS8.out.2.2.2.2.2.1, (hb6.cell (p := ⟨g, H * 4 + 2, none⟩) hgs).trans HS8.out.2.2.2.2.2.2.1, (hb6.cell (p := ⟨g, H * 4 + 3, none⟩) hgs).trans HS8.out.2.2.2.2.2.2.2⟩; clear hb6))
      rw [cmpE_lt]
      clear HO HG HS8 HCM hgs
      by_cases hc : x0 < y0
      · rw [show decide ((x0, x1, x2, x3).1 < (y0, y1, y2, y3).1) = true from decide_eq_true hc]
        have HHI2 : Hid (∀ k (h : k < M1.length), H - a ≤ k → x0 < M1[k].1) := hide (by
          intro k h hk
          have := srt_le HA.out.2.2 (i := H - a) (j := k) (by omega) h
          rw [HYS.out] at this
          exact Int.lt_of_lt_of_le hc this)
        clear hc HHI
        go_wp2_with fail
        go_roundw
        case rel => exact ⟨i, H, by omega, by omega, by omega, rfl, by go_num, HLO, HHI2, HO6, HG6⟩
        case measure => simp [intOf]; omega
      · rw [show decide ((x0, x1, x2, x3).1 < (y0, y1, y2, y3).1) = false from decide_eq_false hc]
        have HLO2 : Hid (∀ k (h : k < M1.length), k < H + 1 - a → M1[k].1 ≤ x0) := hide (by
          intro k h hk
          have := srt_le HA.out.2.2 (i := k) (j := H - a) (by omega) hHl
          rw [HYS.out] at this
          have hc' : ¬ x0 < y0 := hc
          have h2 : y0 ≤ x0 := by omega
          exact Int.le_trans this h2)
        clear hc HLO
        go_wp2_with fail
        go_roundw
        case rel => exact ⟨H + 1, j, by omega, by omega, by omega, by go_num, rfl, HLO2, HHI, HO6, HG6⟩
        case measure => simp [intOf]; omega
    · have z2 : ¬ (i : Int) < (j : Int) := by omega
      have hij2 : j ≤ i := by omega
      obtain ⟨t, ht1, ht2⟩ : ∃ t, a + t ≤ i ∧ i ≤ a + t := ⟨i - a, by omega, by omega⟩
      have htl : t ≤ M1.length := by have := HA.out.2.1; omega
      have HEND : Hid (fI X M1 x Y t = X ++ (stS (M1 ++ [x]) ++ Y)) := hide (by
        unfold fI
        rw [ins_back HA.out.2.2 htl (fun k h hk => HLO.out k h (by omega)) (fun k h hk => HHI.out k h (by omega))])
      have HO0 := hide (show wr.ownsRow lo 33 4 (.slice (some ⟨g, 0, none⟩) n c) n (rEvent (fI X M1 x Y M1.length)) by unfold fI; rw [List.take_of_length_le (Nat.le_refl _), List.drop_of_length_le (Nat.le_refl _), List.append_assoc]; exact HO.out)
      have HXL := hide HA.out.1
      have hml : a + M1.length ≤ m := by have := HA.out.2.1; omega
      have hml2 : m ≤ a + M1.length := by have := HA.out.2.1; omega
      obtain ⟨l1, hl1⟩ : ∃ l1, M1.length = l1 := ⟨_, rfl⟩
      rw [hl1] at HO0 htl hml hml2
      have HL1 := hide hl1
      clear HLO HHI HO hl1
      generalize wr = w5 at *
      go_wp2_with fail
      go_loopw [17] (fun sk wr => ∃ k s : Nat, a + s ≤ k ∧ k ≤ a + s ∧ t ≤ s ∧ s ≤ l1 ∧ sk = .int .i64 (k : Int) ∧ Hid (wr.ownsRow lo 33 4 (.slice (some ⟨g, 0, none⟩) n c) n (rEvent (fI X M1 x Y s))) ∧ Hid (w.grownBy wr (some g))) (fun sk _ => (intOf sk).toNat)
      case atStart => exact ⟨m, l1, by omega, by omega, by omega, by omega, rfl, HO0, HG⟩
      case round =>
        clear HO0 HG
        obtain ⟨k, s, hk1, hk2, hst, hsl, rfl, HO, HG⟩ := hrel
        by_cases hlt2 : t < s
        · obtain ⟨r, rfl⟩ : ∃ r, s = r + 1 := ⟨s - 1, by omega⟩
          obtain ⟨K, rfl⟩ : ∃ K, k = K + 1 := ⟨k - 1, by omega⟩
          have z3 : (i : Int) < (K : Int) + 1 := by omega
          have hsM : r < M1.length := by rw [HL1.out]; omega
          obtain ⟨y, hy0⟩ : ∃ y, M1[r] = y := ⟨_, rfl⟩
          have ek : K = a + r := by omega
          have hx : (fI X M1 x Y (r + 1)).getD (K + 1) zE = x := by rw [ek, ← HXL.out, Nat.add_assoc]; exact fI_x X M1 x Y (r + 1) (by omega)
          have hy : (fI X M1 x Y (r + 1)).getD K zE = y := by rw [ek, ← HXL.out, ← hy0]; exact fI_y X M1 x Y r hsM
          have hsw : swp (fI X M1 x Y (r + 1)) (K + 1) K = fI X M1 x Y r := by rw [ek, ← HXL.out, Nat.add_assoc]; exact fI_swap X M1 x Y r hsM
          have HSW := hide hsw
          clear hsw ek hy0
          obtain ⟨x0, x1, x2, x3⟩ := x
          obtain ⟨y0, y1, y2, y3⟩ := y
          obtain ⟨c0, c1, c2, c3⟩ := se_cells HO.out (by omega) hx
          obtain ⟨d0, d1, d2, d3⟩ := se_cells HO.out (by omega) hy
          have HX := hide hx
          have HY := hide hy
          clear hx hy
          have b1 : K < n := by omega
          have b2 : K + 1 < n := by omega
          have b3 : (K : Int) + 1 < (n : Int) := by omega
          have b7 : IntKind.i64.wrap ((K : Int) + 1 - 1) = (K : Int) := by rw [Int.add_sub_cancel]; exact IntWalk.i64_in _ (by omega)
          have b8 : IntKind.i64.wrap (K : Int) = (K : Int) := IntWalk.i64_in _ (by omega)
          have fz := fun j => HO.out.frozenAt j
          go_wp2_with fail
          go_region
          obtain ⟨V, hV⟩ : ∃ V, ((((((((wr.setCell ⟨g, (K + 1) * 4, none⟩ (.int .i64 y0)).setCell ⟨g, (K + 1) * 4 + 1, none⟩ (.int .i64 y1)).setCell ⟨g, (K + 1) * 4 + 2, none⟩ (.int .i64 y2)).setCell ⟨g, (K + 1) * 4 + 3, none⟩ (.int .i64 y3)).setCell ⟨g, K * 4, none⟩ (.int .i64 x0)).setCell ⟨g, K * 4 + 1, none⟩ (.int .i64 x1)).setCell ⟨g, K * 4 + 2, none⟩ (.int .i64 x2)).setCell ⟨g, K * 4 + 3, none⟩ (.int .i64 x3)) = V := ⟨_, rfl⟩
          obtain ⟨hs, hg⟩ := se_swap HO.out (by omega) (by omega) HX.out HY.out hV
          rw [hV]
          rw [HSW.out] at hs
          have HS := hide (show (World.drew V).ownsRow lo 33 4 (.slice (some ⟨g, 0, none⟩) n c) n (rEvent (fI X M1 (x0, x1, x2, x3) Y r)) from hs)
          have HG2 := hide (gb_drew (gb_trans HG.out hg))
          clear hs hg hV c0 c1 c2 c3 d0 d1 d2 d3 fz HO HG
          generalize World.drew V = WV at *
          go_wp2_with fail
          go_roundw
          case rel => exact ⟨K, r, by omega, by omega, by omega, by omega, by go_num, HS, HG2⟩
          case measure => first | (simp [intOf]; done) | (simp [intOf]; omega)
        · obtain rfl : s = t := by omega
          have z3 : ¬ (i : Int) < (k : Int) := by omega
          have HS := hide (show wr.ownsRow lo 33 4 (.slice (some ⟨g, 0, none⟩) n c) n (rEvent (X ++ (stS (M1 ++ [x]) ++ Y))) by rw [← HEND.out]; exact HO.out)
          go_wp2_with fail
          refine bodyPost_ret (v := .tuple #[]) (results_none (by rfl) _ _ _) rfl ?_
          exact ⟨rfl, HS.out, HG.out⟩

end Go.Proofs.Ytdmhoabidlagmaa
