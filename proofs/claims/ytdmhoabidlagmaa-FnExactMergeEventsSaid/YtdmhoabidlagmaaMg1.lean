/-
  EVENTS: the stable sort at whatever slice of the call's own; are they in time. No condition but those that each theorem names.
-/
import Derived.Test.YtdmhoabidlagmaaSta
import Derived.BigQuiet
namespace Go.Proofs.Ytdmhoabidlagmaa
open Go.RowKit
set_option linter.unusedVariables false
set_option linter.unusedSimpArgs false

set_option maxHeartbeats 1000000 in
theorem insertion_none (A : Option Addr) (c : Nat) (w : World) : Calls Try.prog 21 #[.slice A 0 c, .int .i64 0, .int .i64 0, .func (.func 16) #[] #[]] w fun e w' => e = .returned (.tuple #[]) ∧ w' = w := by
  go_enter Try.func21, Try.ntmps21
  go_wp2_with fail
  go_loopw [8, 9] (fun s _ wr => s = .int .i64 1 ∧ Hid (wr = w)) (fun _ _ _ => 0)
  case atStart => exact ⟨by first | rfl | go_num, hide rfl⟩
  case round =>
    obtain ⟨rfl, hw⟩ := hrel
    go_wp2_with fail
    go_end0
    exact ⟨rfl, hw.out⟩
set_option maxHeartbeats 1000000 in
theorem stable_none (A : Option Addr) (c : Nat) (w : World) : Calls Try.prog 20 #[.slice A 0 c, .int .i64 0, .func (.func 16) #[] #[]] w fun e w' => e = .returned (.tuple #[]) ∧ w' = w := by
  go_enter Try.func20, Try.ntmps20
  go_wp2_with fail
  go_loopw [7, 8] (fun a b wr => a = .int .i64 0 ∧ b = .int .i64 20 ∧ Hid (wr = w)) (fun _ _ _ => 0)
  case atStart => exact ⟨by first | rfl | go_num, by first | rfl | go_num, hide rfl⟩
  case round =>
    obtain ⟨rfl, rfl, hw⟩ := hrel
    go_wp2_with fail
    refine (insertion_none A c _).mono ?_
    rintro e w' ⟨rfl, hw2⟩
    have HW := hide (hw2.trans hw.out)
    clear hw hw2
    generalize w' = w5 at *
    go_wp2_with fail
    go_loopw [6, 7, 8, 9] (fun s _ _ _ wr => s = .int .i64 20 ∧ Hid (wr = w)) (fun _ _ _ _ _ => 0)
    case atStart => exact ⟨by first | rfl | go_num, HW⟩
    case round =>
      obtain ⟨rfl, hw⟩ := hrel
      go_wp2_with fail
      go_end0
      exact ⟨rfl, hw.out⟩
set_option maxHeartbeats 1000000 in
theorem sortStable_any (v : Value) (n lo : Nat) (L : List Evt) (hn : n ≤ 4096) (w : World) (h : w.ownsRow lo 33 4 v n (rEvent L)) :
    Calls Try.prog 15 #[v, .func (.func 16) #[] #[]] w fun e w' => e = .returned (.tuple #[]) ∧ w'.ownsRow lo 33 4 v n (rEvent (stS L)) ∧ w.grownBy w' v.ownBlock := by
  rcases Joins.ownsRow_forms h with ⟨rfl, rfl⟩ | ⟨g, c, rfl⟩
  · have hL : L = [] := List.eq_nil_of_length_eq_zero (by have := h.1; rw [rEvent_length] at this; omega)
    subst hL
    have H := hide h
    clear h
    go_enter Try.func15, Try.ntmps15
    go_wp2_with fail
    refine (stable_none none 0 _).mono ?_
    rintro e w' ⟨rfl, hw⟩
    have HW := hide hw
    clear hw
    go_wp2_with fail
    go_end0
    rw [HW.out]
    exact ⟨rfl, H.out, gb_refl _ _⟩
  · have H := hide h
    clear h
    go_enter Try.func15, Try.ntmps15
    go_wp2_with fail
    refine (stable_any g n c lo L hn _ H.out).mono ?_
    rintro e w' ⟨rfl, ho, hg⟩
    have HO := hide ho
    have HG := hide hg
    clear ho hg
    go_wp2_with fail
    go_end0
    exact ⟨rfl, HO.out, HG.out⟩

set_option maxRecDepth 100000 in
set_option maxHeartbeats 2000000 in
theorem isSorted_any (v : Value) (n lo : Nat) (L : List Evt) (hn : n ≤ 1048576) (w : World) (h : w.ownsRow lo 33 4 v n (rEvent L)) :
    Calls Try.prog 18 #[v, .func (.func 16) #[] #[]] w fun e w' => e = .returned (.bool (risV L)) ∧ Below w.heap.size w w' := by
  have HL : Hid (L.length = n) := hide (by have := h.1; rw [rEvent_length] at this; omega)
  have H := hide h
  clear h
  by_cases hn0 : n = 0
  · subst hn0
    have hL : risV L = true := ris_good (fun i h1 h2 => by have := HL.out; omega)
    have HR := hide hL
    clear hL
    obtain ⟨A, c, rfl, _, _, _⟩ := (Own.of_owns H.out).rd
    go_enter Try.func18, Try.ntmps18
    go_wp2_with fail
    go_loopw [5] (fun s wr => s = .int .i64 (-1) ∧ Hid (wr = w)) (fun _ _ => 0)
    case atStart => exact ⟨by first | rfl | go_num, hide rfl⟩
    case round =>
      obtain ⟨rfl, hw⟩ := hrel
      go_wp2_with fail
      go_ret
      refine ⟨by rw [HR.out]; rfl, ?_⟩
      rw [hw.out]
      exact Below.refl _ _
  · obtain ⟨m, hm1, hm2⟩ : ∃ m, n ≤ m + 1 ∧ m + 1 ≤ n := ⟨n - 1, by omega, by omega⟩
    obtain ⟨g, c, rfl⟩ := Joins.ownsRow_form H.out (by omega)
    have hmi : (n : Int) - 1 = (m : Int) := by omega
    go_enter Try.func18, Try.ntmps18
    go_wp2_with fail
    try rw [hmi]
    clear hmi
    go_loopw [5] (fun s wr => ∃ k : Nat, k < n ∧ s = .int .i64 (k : Int) ∧ Hid (∀ i, k < i → i < n → kev L (i - 1) ≤ kev L i) ∧ Hid (Below w.heap.size w wr)) (fun s _ => (intOf s).toNat)
    case atStart => exact ⟨m, by omega, by first | rfl | go_num, hide (by intro i h1 h2; omega), hide (Below.refl _ _)⟩
    case round =>
      obtain ⟨k, hk, rfl, HP, HB⟩ := hrel
      have hszr := HB.out.size
      have HO := hide (owns_below H.out HB.out)
      by_cases hk0 : 0 < k
      · obtain ⟨j, rfl⟩ : ∃ j, k = j + 1 := ⟨k - 1, by omega⟩
        have z1 : (0 : Int) < (j : Int) + 1 := by omega
        obtain ⟨x, hx⟩ : ∃ x, L.getD (j + 1) zE = x := ⟨_, rfl⟩
        obtain ⟨y, hy⟩ : ∃ y, L.getD j zE = y := ⟨_, rfl⟩
        obtain ⟨x0, x1, x2, x3⟩ := x
        obtain ⟨y0, y1, y2, y3⟩ := y
        have HKX : Hid (kev L (j + 1) = x0) := hide (by unfold kev; rw [show ((0, 0, 0, 0) : Evt) = zE from rfl, hx])
        have HKY : Hid (kev L j = y0) := hide (by unfold kev; rw [show ((0, 0, 0, 0) : Evt) = zE from rfl, hy])
        have HG : Hid (w.grownBy wr (some g)) := hide (gb_below HB.out _)
        have b1 : j + 1 < n := by omega
        have b2 : j < n := by omega
        have b3 : (j : Int) + 1 < (n : Int) := by omega
        have b6 : (0 : Int) ≤ (j : Int) := by omega
        have b5 : (0 : Int) ≤ (j : Int) + 1 := by omega
        have b7 : IntKind.i64.wrap ((j : Int) + 1 - 1) = (j : Int) := by rw [Int.add_sub_cancel]; exact IntWalk.i64_in _ (by omega)
        have b8 : IntKind.i64.wrap (j : Int) = (j : Int) := IntWalk.i64_in _ (by omega)
        obtain ⟨c0, c1, c2, c3⟩ := se_cells HO.out (by omega) hx
        obtain ⟨d0, d1, d2, d3⟩ := se_cells HO.out (by omega) hy
        have HS8 : Hid ((fun W => W.cell? ⟨g, (j + 1) * 4, none⟩ = some (.int .i64 x0) ∧ W.cell? ⟨g, (j + 1) * 4 + 1, none⟩ = some (.int .i64 x1) ∧ W.cell? ⟨g, (j + 1) * 4 + 2, none⟩ = some (.int .i64 x2) ∧ W.cell? ⟨g, (j + 1) * 4 + 3, none⟩ = some (.int .i64 x3) ∧ W.cell? ⟨g, j * 4, none⟩ = some (.int .i64 y0) ∧ W.cell? ⟨g, j * 4 + 1, none⟩ = some (.int .i64 y1) ∧ W.cell? ⟨g, j * 4 + 2, none⟩ = some (.int .i64 y2) ∧ W.cell? ⟨g, j * 4 + 3, none⟩ = some (.int .i64 y3)) wr) := hide ⟨c0, c1, c2, c3, d0, d1, d2, d3⟩
        have hgs : g < wr.heap.size := (HO.out.lt g rfl).2
        have HCM := hide (show Calls Try.prog 16 #[.agg #[.int .i64 x0, .int .i64 x1, .int .i64 x2, .int .i64 x3], .agg #[.int .i64 y0, .int .i64 y1, .int .i64 y2, .int .i64 y3]] (World.drew wr) fun e w' => e = .returned (.int .i64 (cmpE (x0, x1, x2, x3) (y0, y1, y2, y3))) ∧ Below wr.heap.size wr w' from (compareEvents_any (x0, x1, x2, x3) (y0, y1, y2, y3) _).mono (fun e w' h => ⟨h.1, (Joins.below_draws _ _ 1 : Below wr.heap.size wr wr.drew).trans h.2⟩))
        clear c0 c1 c2 c3 d0 d1 d2 d3
        have HX := hide hx
        have HY := hide hy
        clear hx hy
        go_wp2_with fail
        go_region_held3 (fun W => W.cell? ⟨g, (j + 1) * 4, none⟩ = some (.int .i64 x0) ∧ W.cell? ⟨g, (j + 1) * 4 + 1, none⟩ = some (.int .i64 x1) ∧ W.cell? ⟨g, (j + 1) * 4 + 2, none⟩ = some (.int .i64 x2) ∧ W.cell? ⟨g, (j + 1) * 4 + 3, none⟩ = some (.int .i64 x3) ∧ W.cell? ⟨g, j * 4, none⟩ = some (.int .i64 y0) ∧ W.cell? ⟨g, j * 4 + 1, none⟩ = some (.int .i64 y1) ∧ W.cell? ⟨g, j * 4 + 2, none⟩ = some (.int .i64 y2) ∧ W.cell? ⟨g, j * 4 + 3, none⟩ = some (.int .i64 y3)) (first | exact HS8.out | exact HS9.out) (first | (go_at_call 16; (with_reducible refine HCM.out.mono ?_); rintro e w6 ⟨rfl, hb6⟩; have HB6 := hide (HB.out.trans (hb6.mono hszr)); have HO6 := hide (owns_below HO.out hb6); have HG6 := hide (gb_trans HG.out (gb_below hb6 _)); have HS9 : Hid ((fun W => W.cell? ⟨g, (j + 1) * 4, none⟩ = some (.int .i64 x0) ∧ W.cell? ⟨g, (j + 1) * 4 + 1, none⟩ = some (.int .i64 x1) ∧ W.cell? ⟨g, (j + 1) * 4 + 2, none⟩ = some (.int .i64 x2) ∧ W.cell? ⟨g, (j + 1) * 4 + 3, none⟩ = some (.int .i64 x3) ∧ W.cell? ⟨g, j * 4, none⟩ = some (.int .i64 y0) ∧ W.cell? ⟨g, j * 4 + 1, none⟩ = some (.int .i64 y1) ∧ W.cell? ⟨g, j * 4 + 2, none⟩ = some (.int .i64 y2) ∧ W.cell? ⟨g, j * 4 + 3, none⟩ = some (.int .i64 y3)) w6) := hide ⟨(hb6.cell (p := ⟨g, (j + 1) * 4, none⟩) hgs).trans HS8.out.1, (hb6.cell (p := ⟨g, (j + 1) * 4 + 1, none⟩) hgs).trans HS8.out.2.1, (hb6.cell (p := ⟨g, (j + 1) * 4 + 2, none⟩) hgs).trans HS8.out.2.2.1, (hb6.cell (p := ⟨g, (j + 1) * 4 + 3, none⟩) hgs).trans HS8.out.2.2.2.1, (hb6.cell (p := ⟨g, j * 4, none⟩) hgs).trans HS8.out.2.2.2.2.1, (hb6.cell (p := ⟨g, j * 4 + 1, none⟩) hgs).trans HS8.out.2.2.2.2.2.1, (hb6.cell (p := ⟨g, j * 4 + 2, none⟩) hgs).trans HS8.out.2.2.2.2.2.2.1, (hb6.cell (p := ⟨g, j * 4 + 3, none⟩) hgs).trans HS8.out.2.2.2.2.2.2.2⟩; clear hb6))
        rw [cmpE_lt]
        clear HO HG HS8 HCM hgs
        by_cases hc : x0 < y0
        · rw [show decide ((x0, x1, x2, x3).1 < (y0, y1, y2, y3).1) = true from decide_eq_true hc]
          have HR := hide (ris_bad (L := L) (i := j + 1) (by omega) (by have := HL.out; omega) (by rw [Nat.add_sub_cancel, HKX.out, HKY.out]; exact hc))
          go_wp2_with fail
          go_ret
          exact ⟨by rw [HR.out]; rfl, HB6.out⟩
        · rw [show decide ((x0, x1, x2, x3).1 < (y0, y1, y2, y3).1) = false from decide_eq_false hc]
          have HP2 : Hid (∀ i, j < i → i < n → kev L (i - 1) ≤ kev L i) := hide (by
            intro i h1 h2
            by_cases e : i = j + 1
            · subst e
              rw [Nat.add_sub_cancel, HKX.out, HKY.out]
              have hc' : ¬ x0 < y0 := hc
              omega
            · exact HP.out i (by omega) h2)
          go_wp2_with fail
          go_roundw
          case rel => exact ⟨j, by omega, by first | rfl | go_num, HP2, HB6⟩
          case measure => first | (simp [intOf]; done) | (simp [intOf]; omega)
      · have z1 : ¬ (0 : Int) < (k : Int) := by omega
        have HR := hide (ris_good (L := L) (fun i h1 h2 => HP.out i (by omega) (by have := HL.out; omega)))
        go_wp2_with fail
        go_ret
        exact ⟨by rw [HR.out]; rfl, HB.out⟩

set_option maxHeartbeats 1000000 in
theorem inTime_any (v : Value) (n lo : Nat) (L : List Evt) (hn : n ≤ 1048576) (w : World) (h : w.ownsRow lo 33 4 v n (rEvent L)) :
    Calls Try.prog 13 #[v] w fun e w' => e = .returned (.bool (risV L)) ∧ Below w.heap.size w w' := by
  have H := hide h
  clear h
  go_enter Try.func13, Try.ntmps13
  go_wp2_with fail
  refine (isSorted_any v n lo L hn _ H.out).mono ?_
  rintro e w' ⟨rfl, hb⟩
  have HB := hide hb
  clear hb
  go_wp2_with fail
  go_ret
  exact ⟨rfl, HB.out⟩

set_option maxRecDepth 100000 in
set_option maxHeartbeats 2000000 in
theorem l20Rises_any (v : Value) (n lo : Nat) (L : List Evt) (hn : n ≤ 1048576) (w : World) (h : w.ownsRow lo 33 4 v n (rEvent L)) :
    Calls Try.prog 11 #[v] w fun e w' => e = .returned (.bool (risV L)) ∧ Below w.heap.size w w' := by
  have HL : Hid (L.length = n) := hide (by have := h.1; rw [rEvent_length] at this; omega)
  have H := hide h
  clear h
  obtain ⟨A, c, rfl, _, _, _⟩ := (Own.of_owns H.out).rd
  go_enter Try.func11, Try.ntmps11
  go_wp2_with fail
  go_loopw [3] (fun s wr => ∃ k : Nat, 1 ≤ k ∧ (k ≤ n ∨ k ≤ 1) ∧ s = .int .i64 (k : Int) ∧ Hid (∀ i, 0 < i → i < k → kev L (i - 1) ≤ kev L i) ∧ Hid (Below w.heap.size w wr)) (fun s _ => n + 1 - (intOf s).toNat)
  case atStart => exact ⟨1, by omega, by omega, by first | rfl | go_num, hide (by intro i h1 h2; omega), hide (Below.refl _ _)⟩
  case round =>
    obtain ⟨k, hk1, hk2, rfl, HP, HB⟩ := hrel
    have hszr := HB.out.size
    have HO := hide (owns_below H.out HB.out)
    by_cases hkn : k < n
    · obtain ⟨j, rfl⟩ : ∃ j, k = j + 1 := ⟨k - 1, by omega⟩
      have z1 : (j : Int) + 1 < (n : Int) := by omega
      obtain ⟨g, c2, hgc⟩ := Joins.ownsRow_form H.out (by omega)
      injection hgc with hg1 _ hg2
      subst hg1
      obtain ⟨⟨x0, x1, x2, x3⟩, hx⟩ : ∃ x, L.getD (j + 1) zE = x := ⟨_, rfl⟩
      obtain ⟨⟨y0, y1, y2, y3⟩, hy⟩ : ∃ y, L.getD j zE = y := ⟨_, rfl⟩
      have HKX : Hid (kev L (j + 1) = x0) := hide (by unfold kev; rw [show ((0, 0, 0, 0) : Evt) = zE from rfl, hx])
      have HKY : Hid (kev L j = y0) := hide (by unfold kev; rw [show ((0, 0, 0, 0) : Evt) = zE from rfl, hy])
      obtain ⟨c0, _, _, _⟩ := se_cells HO.out (by omega) hx
      obtain ⟨d0, _, _, _⟩ := se_cells HO.out (by omega) hy
      clear hx hy
      have b1 : j + 1 < n := by omega
      have b2 : j < n := by omega
      have b6 : (0 : Int) ≤ (j : Int) := by omega
      have b4 : (j : Int) < (n : Int) := by omega
      have b7 : IntKind.i64.wrap ((j : Int) + 1 - 1) = (j : Int) := by rw [Int.add_sub_cancel]; exact IntWalk.i64_in _ (by omega)
      have b8 : IntKind.i64.wrap (j : Int) = (j : Int) := IntWalk.i64_in _ (by omega)
      go_wp2_with fail
      go_quiet (fail)
      have HBQ := hide (HB.out.trans ((Joins.below_draws wr.heap.size wr nq).mono hszr))
      generalize wr.drewN nq = w6 at *
      by_cases hc : x0 < y0
      · have z2 : y0 > x0 := hc
        have z3 : decide (y0 > x0) = true := by simpa using hc
        have z4 : decide (x0 < y0) = true := by simpa using hc
        have HR := hide (ris_bad (L := L) (i := j + 1) (by omega) (by have := HL.out; omega) (by rw [Nat.add_sub_cancel, HKX.out, HKY.out]; exact hc))
        go_wp2_with fail
        go_ret
        exact ⟨by rw [HR.out]; rfl, HBQ.out⟩
      · have z3 : decide (y0 > x0) = false := by simpa using hc
        have z4 : decide (x0 < y0) = false := by simpa using hc
        have HP2 : Hid (∀ i, 0 < i → i < j + 1 + 1 → kev L (i - 1) ≤ kev L i) := hide (by
          intro i h1 h2
          by_cases e : i = j + 1
          · subst e
            rw [Nat.add_sub_cancel, HKX.out, HKY.out]
            omega
          · exact HP.out i h1 (by omega))
        go_wp2_with fail
        go_roundw
        case rel => first | exact ⟨j + 1 + 1, by omega, by omega, by first | rfl | go_num, HP2, HBQ⟩ | exact ⟨j + 1 + 1, by omega, by omega, by omega, HP2⟩
        case measure => first | (simp [intOf]; done) | (simp [intOf]; omega)
    · have z1 : ¬ (k : Int) < (n : Int) := by omega
      have HR := hide (ris_good (L := L) (fun i h1 h2 => HP.out i h1 (by have := HL.out; omega)))
      go_wp2_with fail
      go_ret
      exact ⟨by rw [HR.out]; rfl, HB.out⟩

end Go.Proofs.Ytdmhoabidlagmaa
