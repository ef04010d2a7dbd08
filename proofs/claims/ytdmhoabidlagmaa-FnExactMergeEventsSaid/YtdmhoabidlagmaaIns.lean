/-
  INSERTION SORT of events. No condition but those that each theorem names.
-/
import Derived.Test.YtdmhoabidlagmaaRot
namespace Go.Proofs.Ytdmhoabidlagmaa
open Go.RowKit
set_option linter.unusedVariables false
set_option linter.unusedSimpArgs false

theorem swp_comm (L : List Evt) {i j : Nat} (h : i ≠ j) : swp L i j = swp L j i := by
  unfold swp
  exact List.set_comm _ _ h
theorem stS_id {L : List Evt} (h : Srt L) : stS L = L := (st_eq h (Sm.refl L)).symm
theorem stS_one (L : List Evt) (h : L.length ≤ 1) : stS L = L := by
  match L, h with
  | [], _ => rfl
  | [x], _ => rfl
/-- One event more, at its place. -/
theorem ins_step {M S : List Evt} {k q : Nat} (hk : k < M.length) (hS : S = stS (M.take k)) (hq : q ≤ S.length) (hgt : ∀ e ∈ S.drop q, M[k].1 < e.1) (hle : ∀ (h : 0 < q), (S[q - 1]'(by omega)).1 ≤ M[k].1) : S.take q ++ M[k] :: S.drop q = stS (M.take (k + 1)) := by
  have hsrt : Srt S := by rw [hS]; exact stS_srt _
  have hsplit : Srt (S.take q ++ S.drop q) := by rw [List.take_append_drop]; exact hsrt
  obtain ⟨s1, s2, s3⟩ := Srt.app.1 hsplit
  have hlow : ∀ e ∈ S.take q, e.1 ≤ M[k].1 := by
    intro e he
    obtain ⟨i, hi, rfl⟩ := List.getElem_of_mem he
    rw [List.length_take] at hi
    rw [List.getElem_take]
    have h1 := srt_kev.1 hsrt i (q - 1) (by omega) (by omega)
    rw [kev_at (by omega), kev_at (by omega)] at h1
    exact Int.le_trans h1 (hle (by omega))
  refine st_eq (Srt.app.2 ⟨s1, Srt.cons.2 ⟨fun y hy => by have := hgt y hy; omega, s2⟩, fun x hx y hy => ?_⟩) ?_
  · rcases List.mem_cons.1 hy with rfl | hy
    · exact hlow x hx
    · exact s3 x hx y hy
  · rw [List.take_succ_eq_append_getElem hk]
    have e1 : Sm (S.take q ++ M[k] :: S.drop q) (S ++ [M[k]]) := by
      have : S ++ [M[k]] = S.take q ++ (S.drop q ++ [M[k]]) := by rw [← List.append_assoc, List.take_append_drop]
      rw [this]
      refine Sm.app (Sm.refl _) ?_
      refine Sm.swap (U := S.drop q) (V := [M[k]]) ?_
      intro u hu v hv
      obtain rfl : v = M[k] := by simpa using hv
      exact hgt u hu
    refine e1.trans (Sm.app ?_ (Sm.refl _))
    rw [hS]
    exact stS_sm _
def fI (X S : List Evt) (x : Evt) (R : List Evt) (q : Nat) : List Evt := X ++ ((S.take q ++ x :: S.drop q) ++ R)
theorem fI_x (X S : List Evt) (x : Evt) (R : List Evt) (q : Nat) (hq : q ≤ S.length) : (fI X S x R q).getD (X.length + q) zE = x := by
  unfold fI
  rw [List.getD_eq_getElem?_getD, List.getElem?_append_right (by omega), Nat.add_sub_cancel_left, List.append_assoc, List.getElem?_append_right (by rw [List.length_take]; omega), List.length_take, Nat.min_eq_left hq, Nat.sub_self]
  rfl
theorem fI_y (X S : List Evt) (x : Evt) (R : List Evt) (q : Nat) (hq : q < S.length) : (fI X S x R (q + 1)).getD (X.length + q) zE = S[q] := by
  unfold fI
  rw [List.getD_eq_getElem?_getD, List.getElem?_append_right (by omega), Nat.add_sub_cancel_left, List.append_assoc, List.getElem?_append_left (by rw [List.length_take]; omega), List.getElem?_take_of_lt (by omega), List.getElem?_eq_getElem hq]
  rfl
theorem fI_swap (X S : List Evt) (x : Evt) (R : List Evt) (q : Nat) (hq : q < S.length) : swp (fI X S x R (q + 1)) (X.length + (q + 1)) (X.length + q) = fI X S x R q := by
  rw [swp_comm _ (by omega)]
  have e1 : fI X S x R (q + 1) = (X ++ S.take q) ++ S[q] :: ([] ++ x :: (S.drop (q + 1) ++ R)) := by
    unfold fI
    rw [List.take_succ_eq_append_getElem hq]; simp only [List.append_assoc, List.cons_append, List.nil_append]
  have e2 : fI X S x R q = (X ++ S.take q) ++ x :: ([] ++ S[q] :: (S.drop (q + 1) ++ R)) := by
    unfold fI
    rw [List.drop_eq_getElem_cons hq]; simp only [List.append_assoc, List.cons_append, List.nil_append]
  have l : (X ++ S.take q).length = X.length + q := by rw [List.length_append, List.length_take]; omega
  have := swp_split (X ++ S.take q) [] (S.drop (q + 1) ++ R) S[q] x
  rw [l] at this
  rw [e1, e2]
  exact this

set_option maxRecDepth 100000 in
set_option maxHeartbeats 2000000 in
theorem insertion_any (g n c lo : Nat) (X M Y : List Evt) (a b : Nat) (ha : X.length = a) (hb : a + M.length = b) (hn : n ≤ 4096) (w : World) (h : w.ownsRow lo 33 4 (.slice (some ⟨g, 0, none⟩) n c) n (rEvent (X ++ (M ++ Y)))) :
    Calls Try.prog 21 #[.slice (some ⟨g, 0, none⟩) n c, .int .i64 a, .int .i64 b, .func (.func 16) #[] #[]] w fun e w' => e = .returned (.tuple #[]) ∧ w'.ownsRow lo 33 4 (.slice (some ⟨g, 0, none⟩) n c) n (rEvent (X ++ (stS M ++ Y))) ∧ w.grownBy w' (some g) := by
  have HL : (X ++ (M ++ Y)).length = n := by have := h.1; rw [rEvent_length] at this; omega
  have hbn : b ≤ n := by simp at HL; omega
  have H := hide h
  have HA := hide (And.intro ha hb)
  have hab : a ≤ b := by omega
  clear h HL ha hb
  go_enter Try.func21, Try.ntmps21
  go_wp2_with fail
  go_loopw [8, 9] (fun si _ wr => ∃ i k : Nat, a + k ≤ i ∧ i ≤ a + k ∧ 1 ≤ k ∧ (a + k ≤ b ∨ (a = b ∧ k = 1)) ∧ si = .int .i64 (i : Int) ∧ Hid (wr.ownsRow lo 33 4 (.slice (some ⟨g, 0, none⟩) n c) n (rEvent (X ++ (stS (M.take k) ++ (M.drop k ++ Y))))) ∧ Hid (w.grownBy wr (some g))) (fun si _ _ => b + 1 - (intOf si).toNat)
  case atStart => exact ⟨a + 1, 1, by omega, by omega, by omega, by omega, by go_num, hide (by rw [stS_one _ (by rw [List.length_take]; omega), ← List.append_assoc (M.take 1), List.take_append_drop]; exact H.out), hide (gb_refl _ _)⟩
  case round =>
    clear H
    obtain ⟨i, k, hi1, hi2, hk1, hk2, rfl, HO, HG⟩ := hrel
    by_cases hkb : i < b
    · have z1 : (i : Int) < (b : Int) := by omega
      have hkM : k < M.length := by have := HA.out.2; omega
      obtain ⟨S, hS⟩ : ∃ S, S = stS (M.take k) := ⟨_, rfl⟩
      have hSl : S.length = k := by rw [hS, stS_len, List.length_take]; omega
      obtain ⟨x, hx⟩ : ∃ x, M[k] = x := ⟨_, rfl⟩
      obtain ⟨R, hR⟩ : ∃ R, M.drop (k + 1) ++ Y = R := ⟨_, rfl⟩
      have HO1 := hide (show wr.ownsRow lo 33 4 (.slice (some ⟨g, 0, none⟩) n c) n (rEvent (fI X S x R k)) by
        have q := HO.out
        rw [← hS, List.drop_eq_getElem_cons hkM, hx, List.cons_append, hR] at q
        unfold fI
        rw [List.take_of_length_le (by omega), List.drop_of_length_le (by omega), List.append_assoc]
        exact q)
      have HEND : Hid (∀ q, q ≤ k → (∀ e ∈ S.drop q, x.1 < e.1) → (∀ (h : 0 < q) (h2 : q - 1 < S.length), (S[q - 1]).1 ≤ x.1) → fI X S x R q = X ++ (stS (M.take (k + 1)) ++ (M.drop (k + 1) ++ Y))) := hide (by
        intro q hq h1 h2
        have := ins_step hkM hS (by omega) (q := q) (by rw [hx]; exact h1) (fun h => by rw [hx]; exact h2 h (by omega))
        rw [hx] at this
        unfold fI
        rw [this, hR])
      have HSL := hide hSl
      have HXL := hide HA.out.1
      clear HO hS hx hR hSl
      generalize wr = w5 at *
      go_wp2_with fail
      go_loopw [9] (fun sj wr => ∃ j q : Nat, a + q ≤ j ∧ j ≤ a + q ∧ q ≤ k ∧ sj = .int .i64 (j : Int) ∧ Hid (∀ e ∈ S.drop q, x.1 < e.1) ∧ Hid (wr.ownsRow lo 33 4 (.slice (some ⟨g, 0, none⟩) n c) n (rEvent (fI X S x R q))) ∧ Hid (w.grownBy wr (some g))) (fun sj _ => (intOf sj).toNat)
      case atStart => exact ⟨i, k, hi1, hi2, Nat.le_refl _, rfl, hide (by rw [List.drop_of_length_le (by rw [HSL.out]; exact Nat.le_refl _)]; intro e he; simp at he), HO1, HG⟩
      case round =>
        clear HO1 HG
        obtain ⟨j, q, hj1, hj2, hq, rfl, HGT, HO, HG⟩ := hrel
        by_cases hq0 : q = 0
        · have z2 : decide ((a : Int) < (j : Int)) = false := by simp; omega
          have z3 : decide (a < j) = false := by simp; omega
          have HON := hide (show wr.ownsRow lo 33 4 (.slice (some ⟨g, 0, none⟩) n c) n (rEvent (X ++ (stS (M.take (k + 1)) ++ (M.drop (k + 1) ++ Y)))) by rw [← HEND.out q hq HGT.out (by intro h; omega)]; exact HO.out)
          clear hq0 HO HEND HGT
          go_wp2_with fail
          go_quiet (fail)
          have HOD := hide (show (wr.drewN nq).ownsRow lo 33 4 (.slice (some ⟨g, 0, none⟩) n c) n (rEvent (X ++ (stS (M.take (k + 1)) ++ (M.drop (k + 1) ++ Y)))) from HON.out)
          have HGD := hide (gb_trans HG.out (gb_below (Joins.below_draws wr.heap.size wr nq) _))
          clear HG HON
          generalize wr.drewN nq = w6 at *
          go_wp2_with fail
          go_roundw
          case rel => exact ⟨i + 1, k + 1, by omega, by omega, by omega, by omega, by go_num, HOD, HGD⟩
          case measure => simp [intOf]; omega
        · obtain ⟨r, rfl⟩ : ∃ r, q = r + 1 := ⟨q - 1, by omega⟩
          obtain ⟨J, rfl⟩ : ∃ J, j = J + 1 := ⟨j - 1, by omega⟩
          have z2 : decide ((a : Int) < (J : Int) + 1) = true := by simp; omega
          have z3 : decide (a < J + 1) = true := by simp; omega
          have z4 : decide (a ≤ J) = true := by simp; omega
          have z5 : decide ((a : Int) ≤ (J : Int)) = true := by simp; omega
          have b6 : (0 : Int) ≤ (J : Int) := by omega
          have b7 : IntKind.i64.wrap ((J : Int) + 1 - 1) = (J : Int) := by rw [Int.add_sub_cancel]; exact IntWalk.i64_in _ (by omega)
          have b8 : IntKind.i64.wrap (J : Int) = (J : Int) := IntWalk.i64_in _ (by omega)
          have b1 : J + 1 < n := by omega
          have b5 : (0 : Int) ≤ (J : Int) + 1 := by omega
          have b2 : J < n := by omega
          have b3 : (J : Int) + 1 < (n : Int) := by omega
          have b4 : (J : Int) < (n : Int) := by omega
          have hrS : r < S.length := by rw [HSL.out]; omega
          have eJ : J = a + r := by omega
          obtain ⟨y, hy⟩ : ∃ y, S[r] = y := ⟨_, rfl⟩
          have hex : (fI X S x R (r + 1)).getD (J + 1) zE = x := by rw [eJ, ← HXL.out, Nat.add_assoc]; exact fI_x X S x R (r + 1) (by omega)
          have hey : (fI X S x R (r + 1)).getD J zE = y := by rw [eJ, ← HXL.out, ← hy]; exact fI_y X S x R r hrS
          have hsw : swp (fI X S x R (r + 1)) (J + 1) J = fI X S x R r := by rw [eJ, ← HXL.out, Nat.add_assoc]; exact fI_swap X S x R r hrS
          have HSW := hide hsw
          have HYS := hide hy
          obtain ⟨x0, x1, x2, x3⟩ := x
          obtain ⟨y0, y1, y2, y3⟩ := y
          obtain ⟨c0, c1, c2, c3⟩ := se_cells HO.out (by omega) hex
          obtain ⟨d0, d1, d2, d3⟩ := se_cells HO.out (by omega) hey
          have HX := hide hex
          have HY := hide hey
          have HS8 : Hid (wr.cell? ⟨g, (J + 1) * 4, none⟩ = some (.int .i64 x0) ∧ wr.cell? ⟨g, (J + 1) * 4 + 1, none⟩ = some (.int .i64 x1) ∧ wr.cell? ⟨g, (J + 1) * 4 + 2, none⟩ = some (.int .i64 x2) ∧ wr.cell? ⟨g, (J + 1) * 4 + 3, none⟩ = some (.int .i64 x3) ∧ wr.cell? ⟨g, J * 4, none⟩ = some (.int .i64 y0) ∧ wr.cell? ⟨g, J * 4 + 1, none⟩ = some (.int .i64 y1) ∧ wr.cell? ⟨g, J * 4 + 2, none⟩ = some (.int .i64 y2) ∧ wr.cell? ⟨g, J * 4 + 3, none⟩ = some (.int .i64 y3)) := hide ⟨c0, c1, c2, c3, d0, d1, d2, d3⟩
          have hgs : g < wr.heap.size := (HO.out.lt g rfl).2
          have HCM := hide (show Calls Try.prog 16 #[.agg #[.int .i64 x0, .int .i64 x1, .int .i64 x2, .int .i64 x3], .agg #[.int .i64 y0, .int .i64 y1, .int .i64 y2, .int .i64 y3]] (World.drew wr) fun e w' => e = .returned (.int .i64 (cmpE (x0, x1, x2, x3) (y0, y1, y2, y3))) ∧ Below wr.heap.size wr w' from (compareEvents_any (x0, x1, x2, x3) (y0, y1, y2, y3) _).mono (fun e w' h => ⟨h.1, (Joins.below_draws _ _ 1 : Below wr.heap.size wr wr.drew).trans h.2⟩))
          clear hex hey hsw hy eJ c0 c1 c2 c3 d0 d1 d2 d3
          go_wp2_with fail
          go_region_held3 (fun W => W.cell? ⟨g, (J + 1) * 4, none⟩ = some (.int .i64 x0) ∧ W.cell? ⟨g, (J + 1) * 4 + 1, none⟩ = some (.int .i64 x1) ∧ W.cell? ⟨g, (J + 1) * 4 + 2, none⟩ = some (.int .i64 x2) ∧ W.cell? ⟨g, (J + 1) * 4 + 3, none⟩ = some (.int .i64 x3) ∧ W.cell? ⟨g, J * 4, none⟩ = some (.int .i64 y0) ∧ W.cell? ⟨g, J * 4 + 1, none⟩ = some (.int .i64 y1) ∧ W.cell? ⟨g, J * 4 + 2, none⟩ = some (.int .i64 y2) ∧ W.cell? ⟨g, J * 4 + 3, none⟩ = some (.int .i64 y3)) (first | exact HS8.out | exact HS9.out) (first | (go_at_call 16; (with_reducible refine HCM.out.mono ?_); rintro e w6 ⟨rfl, hb6⟩; have HB6 := hide hb6; have HO6 := hide (owns_below HO.out hb6); have HG6 := hide (gb_trans HG.out (gb_below hb6 _)); have HS9 : Hid (w6.cell? ⟨g, (J + 1) * 4, none⟩ = some (.int .i64 x0) ∧ w6.cell? ⟨g, (J + 1) * 4 + 1, none⟩ = some (.int .i64 x1) ∧ w6.cell? ⟨g, (J + 1) * 4 + 2, none⟩ = some (.int .i64 x2) ∧ w6.cell? ⟨g, (J + 1) * 4 + 3, none⟩ = some (.int .i64 x3) ∧ w6.cell? ⟨g, J * 4, none⟩ = some (.int .i64 y0) ∧ w6.cell? ⟨g, J * 4 + 1, none⟩ = some (.int .i64 y1) ∧ w6.cell? ⟨g, J * 4 + 2, none⟩ = some (.int .i64 y2) ∧ w6.cell? ⟨g, J * 4 + 3, none⟩ = some (.int .i64 y3)) := hide ⟨(hb6.cell (p := ⟨g, (J + 1) * 4, none⟩) hgs).trans HS8.out.1, (hb6.cell (p := ⟨g, (J + 1) * 4 + 1, none⟩) hgs).trans HS8.out.2.1, (hb6.cell (p := ⟨g, (J + 1) * 4 + 2, none⟩) hgs).trans HS8.out.2.2.1, (hb6.cell (p := ⟨g, (J + 1) * 4 + 3, none⟩) hgs).trans HS8.out.2.2.2.1, (hb6.cell (p := ⟨g, J * 4, none⟩) hgs).trans HS8.out.2.2.2.2.1, (hb6.cell (p := ⟨g, J * 4 + 1, none⟩) hgs).trans HS8.out.2.2.2.2.2.1, (hb6.cell (p := ⟨g, J * 4 + 2, none⟩) hgs).trans HS8.out.2.2.2.2.2.2.1, (hb6.cell (p := ⟨g, J * 4 + 3, none⟩) hgs).trans HS8.out.2.2.2.2.2.2.2⟩; clear hb6))
          rw [cmpE_lt]
          have HSP : Hid (S.drop r = (y0, y1, y2, y3) :: S.drop (r + 1)) := hide (by rw [← HYS.out]; exact List.drop_eq_getElem_cons hrS)
          obtain ⟨c0, c1, c2, c3, d0, d1, d2, d3⟩ := HS9.out
          clear HO HG HS8 HS9 HCM HB6
          by_cases hlt : x0 < y0
          · rw [show decide ((x0, x1, x2, x3).1 < (y0, y1, y2, y3).1) = true from decide_eq_true hlt]
            have HGT2 : Hid (∀ e ∈ S.drop r, x0 < e.1) := hide (by
              intro e he
              rw [HSP.out] at he
              rcases List.mem_cons.1 he with rfl | he
              · exact hlt
              · exact HGT.out e he)
            clear hlt HGT
            have fz := fun j => HO6.out.frozenAt j
            go_wp2_with fail
            go_region
            obtain ⟨V, hV⟩ : ∃ V, (((((((w6.setCell ⟨g, (J + 1) * 4, none⟩ (.int .i64 y0)).setCell ⟨g, (J + 1) * 4 + 1, none⟩ (.int .i64 y1)).setCell ⟨g, (J + 1) * 4 + 2, none⟩ (.int .i64 y2)).setCell ⟨g, (J + 1) * 4 + 3, none⟩ (.int .i64 y3)).setCell ⟨g, J * 4, none⟩ (.int .i64 x0)).setCell ⟨g, J * 4 + 1, none⟩ (.int .i64 x1)).setCell ⟨g, J * 4 + 2, none⟩ (.int .i64 x2)).setCell ⟨g, J * 4 + 3, none⟩ (.int .i64 x3) = V := ⟨_, rfl⟩
            obtain ⟨hs, hg⟩ := se_swap HO6.out b1 b2 HX.out HY.out hV
            rw [hV]
            rw [HSW.out] at hs
            have HS := hide (show (World.drew V).ownsRow lo 33 4 (.slice (some ⟨g, 0, none⟩) n c) n (rEvent (fI X S (x0, x1, x2, x3) R r)) from hs)
            have HG2 := hide (gb_drew (gb_trans HG6.out hg))
            clear hs hg hV c0 c1 c2 c3 d0 d1 d2 d3 fz HO6 HG6
            generalize World.drew V = WV at *
            go_wp2_with fail
            go_roundw
            case rel => exact ⟨J, r, by omega, by omega, by omega, by go_num, HGT2, HS, HG2⟩
            case measure => simp [intOf]
          · rw [show decide ((x0, x1, x2, x3).1 < (y0, y1, y2, y3).1) = false from decide_eq_false hlt]
            have HON := hide (show w6.ownsRow lo 33 4 (.slice (some ⟨g, 0, none⟩) n c) n (rEvent (X ++ (stS (M.take (k + 1)) ++ (M.drop (k + 1) ++ Y)))) by
              rw [← HEND.out (r + 1) hq HGT.out (by intro _ h2; rw [show S[r + 1 - 1] = S[r] from rfl, HYS.out]; show y0 ≤ x0; omega)]; exact HO6.out)
            clear hlt HGT c0 c1 c2 c3 d0 d1 d2 d3 HO6
            go_wp2_with fail
            go_roundw
            case rel => exact ⟨i + 1, k + 1, by omega, by omega, by omega, by omega, by go_num, HON, HG6⟩
            case measure => simp [intOf]; omega
    · have HON := hide (show wr.ownsRow lo 33 4 (.slice (some ⟨g, 0, none⟩) n c) n (rEvent (X ++ (stS M ++ Y))) by
        have q := HO.out
        have hle : M.length ≤ k := by have := HA.out.2; omega
        rw [List.take_of_length_le hle, List.drop_of_length_le hle, List.nil_append] at q
        exact q)
      have z1 : ¬ (i : Int) < (b : Int) := by omega
      go_wp2_with fail
      go_end0
      exact ⟨rfl, HON.out, HG.out⟩
end Go.Proofs.Ytdmhoabidlagmaa
