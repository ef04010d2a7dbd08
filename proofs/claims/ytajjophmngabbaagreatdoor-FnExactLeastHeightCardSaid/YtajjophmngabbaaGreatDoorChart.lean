/-
  VALID CHARTS: the reference's and the program's. No condition but those that each theorem names.
-/
import Derived.Test.YtajjophmngabbaaGreatDoorCr
import Derived.IntWalk
namespace Go.Proofs.YtajjophmngabbaaGreatDoor
open Go.RowKit
set_option linter.unusedVariables false

theorem l00In_is {n lo hi : Int} {b : Bool} (h : inR n lo hi = b) {w : World} : Calls Tryz.prog 13 #[.int .i64 n, .int .i64 lo, .int .i64 hi] w fun e w' => e = .returned (.bool b) ∧ w' = w := by rw [← h]; exact l00In_any n lo hi w
theorem within_is {n lo hi : Int} {b : Bool} (h : inR n lo hi = b) {w : World} : Calls Tryz.prog 29 #[.int .i64 n, .int .i64 lo, .int .i64 hi] w fun e w' => e = .returned (.bool b) ∧ w' = w := by rw [← h]; exact within_any n lo hi w
abbrev Chr := List (Int × Int)
/-- Is the k-th step of a chart as it should be? -/
def okS (l : Chr) (k : Nat) : Bool := inR (l.getD k (0, 0)).1 1 1000 && (inR (l.getD k (0, 0)).2 0 50000 && (k == 0 || (!(decide ((l.getD k (0, 0)).1 ≤ (l.getD (k - 1) (0, 0)).1) || decide ((l.getD (k - 1) (0, 0)).2 < (l.getD k (0, 0)).2)))))
def chB (l : Chr) : Bool := (List.range l.length).all (okS l) && inR (l.length : Int) 1 20
theorem chB_no {l : Chr} {k : Nat} (hk : k < l.length) (h : okS l k = false) : chB l = false := by
  have : (List.range l.length).all (okS l) = false := by rw [List.all_eq_false]; exact ⟨k, by simpa using hk, by simp [h]⟩
  unfold chB; rw [this]; rfl
theorem chB_end {l : Chr} (h : ∀ j, j < l.length → okS l j = true) : chB l = inR (l.length : Int) 1 20 := by
  unfold chB; rw [List.all_eq_true.2 (fun j hj => h j (by simpa using hj)), Bool.true_and]
theorem chB_true {l : Chr} (h : chB l = true) : (∀ j, j < l.length → okS l j = true) ∧ 1 ≤ l.length ∧ l.length ≤ 20 := by
  unfold chB at h
  simp only [Bool.and_eq_true, List.all_eq_true, List.mem_range] at h
  have := inR_true h.2
  exact ⟨h.1, by omega, by omega⟩
theorem okS_1 {l : Chr} {k : Nat} (hk : k < l.length) (h : inR l[k].1 1 1000 = false) : okS l k = false := by simp [okS, List.getD, hk, h]
theorem okS_2 {l : Chr} {k : Nat} (hk : k < l.length) (h : inR l[k].2 0 50000 = false) : okS l k = false := by simp [okS, List.getD, hk, h]
theorem okS_0 {l : Chr} (hk : 0 < l.length) (h : inR l[0].1 1 1000 = true) (h2 : inR l[0].2 0 50000 = true) : okS l 0 = true := by simp [okS, List.getD, hk, h, h2]
theorem okS_s {l : Chr} {k : Nat} (hk : k + 1 < l.length) (h : inR l[k + 1].1 1 1000 = true) (h2 : inR l[k + 1].2 0 50000 = true) {b1 b2 : Bool} (h3 : decide (l[k + 1].1 ≤ l[k].1) = b1) (h4 : decide (l[k].2 < l[k + 1].2) = b2) : okS l (k + 1) = !(b1 || b2) := by
  subst h3; subst h4
  simp only [okS, List.getD, List.getElem?_eq_getElem hk, List.getElem?_eq_getElem (show k < l.length by omega), Nat.add_sub_cancel, Option.getD_some]
  rw [h, h2]; rfl
theorem okS_more {l : Chr} {k : Nat} (h : ∀ j, j < k → okS l j = true) (hk : okS l k = true) : ∀ j, j < k + 1 → okS l j = true := by
  intro j hj
  rcases Nat.lt_or_ge j k with h1 | h1
  · exact h j h1
  · obtain rfl : j = k := by omega
    exact hk
/-- The last radius of a chart. -/
def lastR (l : Chr) : Int := (l.getD (l.length - 1) (0, 0)).1

set_option maxRecDepth 100000 in
set_option maxHeartbeats 2000000 in
theorem l03Ok_any (A : Option Addr) (n c lo hi : Nat) (l : Chr) (hn : n ≤ 1048576) (w : World) (hl : l.length = n) (h : Rd w lo hi 2 A n (rChartStep l)) (hhi : hi ≤ w.heap.size) :
    Calls Tryz.prog 67 #[.slice A n c] w fun e w' => e = .returned (.bool (chB l)) ∧ ∃ m, w' = w.drewN m := by
  have H1 := hide hl
  have H2 := hide h
  clear hl h
  go_enter Tryz.func67, Tryz.ntmps67
  go_wp2
  go_loopw [3] (fun i wr => ∃ k : Nat, k ≤ n ∧ i = .int .i64 k ∧ Hid (∀ j, j < k → okS l j = true) ∧ ∃ m, wr = w.drewN m) (fun i _ => n - (intOf i).toNat)
  case atStart => exact ⟨0, by omega, rfl, hide (fun j hj => absurd hj (by omega)), ⟨0, rfl⟩⟩
  case round =>
    obtain ⟨k, hk, rfl, hok, mm, hwr⟩ := hrel
    by_cases hlt : k < n
    · skip
      have hlen : k < l.length := by rw [H1.out]; exact hlt
      obtain ⟨t0, t1⟩ := rChartStep_at l k hlen
      obtain ⟨b, off, rfl, hb1', hb2', hc⟩ := H2.out.2 (by omega)
      have CW : ∀ p : Addr, wr.cell? p = w.cell? p := fun p => by rw [hwr]; rfl
      have HWR := hide hwr
      clear hwr
      have c0 : wr.cell? ⟨b, off + k * 2, none⟩ = some (.int .i64 l[k].1) := (CW _).trans (hc _ _ t0)
      have c1 : wr.cell? ⟨b, off + k * 2 + 1, none⟩ = some (.int .i64 l[k].2) := (CW _).trans (hc _ _ t1)
      cases e1 : inR l[k].1 1 1000
      case false =>
        have E := hide (chB_no hlen (okS_1 hlen e1))
        clear t0 t1 hc hok CW
        generalize l[k].1 = p0 at *
        generalize l[k].2 = p1 at *
        go_wp2_with (first | (go_at_call 13; (with_reducible refine (l00In_is e1).mono ?_); rintro e w' ⟨rfl, rfl⟩))
        go_ret
        exact ⟨ret_bool E.out.symm, ⟨_, HWR.out⟩⟩
      cases e2 : inR l[k].2 0 50000
      case false =>
        have E := hide (chB_no hlen (okS_2 hlen e2))
        clear t0 t1 hc hok CW
        generalize l[k].1 = p0 at *
        generalize l[k].2 = p1 at *
        go_wp2_with (first | (go_at_call 13; (with_reducible refine (l00In_is e1).mono ?_); rintro e w' ⟨rfl, rfl⟩) | (go_at_call 13; (with_reducible refine (l00In_is e2).mono ?_); rintro e w' ⟨rfl, rfl⟩))
        go_ret
        exact ⟨ret_bool E.out.symm, ⟨_, HWR.out⟩⟩
      by_cases hk0 : k = 0
      · subst hk0
        have E := hide (okS_more hok.out (okS_0 hlen e1 e2))
        clear t0 t1 hc hok CW
        simp only [Nat.zero_mul, Nat.add_zero] at c0 c1
        generalize l[0].1 = p0 at *
        generalize l[0].2 = p1 at *
        go_wp2_with (first | (go_at_call 13; (with_reducible refine (l00In_is e1).mono ?_); rintro e w' ⟨rfl, rfl⟩) | (go_at_call 13; (with_reducible refine (l00In_is e2).mono ?_); rintro e w' ⟨rfl, rfl⟩))
        go_quiet (fail)
        go_wp2_with fail
        go_roundw
        case rel => exact ⟨0 + 1, by omega, by go_num, E, ⟨_, by rw [HWR.out, World.drewN_drewN]⟩⟩
        case measure => simp [intOf]; omega
      obtain ⟨k', rfl⟩ : ∃ k', k = k' + 1 := ⟨k - 1, by omega⟩
      clear hk0
      obtain ⟨s0, s1⟩ := rChartStep_at l k' (by omega)
      have d0 : wr.cell? ⟨b, off + k' * 2, none⟩ = some (.int .i64 l[k'].1) := (CW _).trans (hc _ _ s0)
      have d1 : wr.cell? ⟨b, off + k' * 2 + 1, none⟩ = some (.int .i64 l[k'].2) := (CW _).trans (hc _ _ s1)
      have y0 : (0 : Int) ≤ (k' : Int) := by omega
      have y1 : (k' : Int) < (n : Int) := by omega
      have y2 : IntKind.i64.wrap ((k' : Int) + 1 - 1) = (k' : Int) := by rw [Int.add_sub_cancel]; exact IntWalk.i64_in _ ⟨by omega, by omega⟩
      have y3 : IntKind.i64.wrap (k' : Int) = (k' : Int) := IntWalk.i64_in _ ⟨by omega, by omega⟩
      have Y := hide (And.intro y2 y3)
      clear y2 y3
      cases e3 : decide (l[k' + 1].1 ≤ l[k'].1)
      case true =>
        have EE := okS_s hlen e1 e2 e3 (b2 := _) rfl
        rw [Bool.true_or] at EE
        have E := hide (chB_no hlen EE)
        clear EE t0 t1 s0 s1 hc hok CW
        generalize l[k' + 1].1 = p0 at *
        generalize l[k' + 1].2 = p1 at *
        generalize l[k'].1 = q0 at *
        generalize l[k'].2 = q1 at *
        go_wp2_with (first | (go_at_call 13; (with_reducible refine (l00In_is e1).mono ?_); rintro e w' ⟨rfl, rfl⟩) | (go_at_call 13; (with_reducible refine (l00In_is e2).mono ?_); rintro e w' ⟨rfl, rfl⟩))
        have y2 := Y.out.1
        have y3 := Y.out.2
        skip
        go_quiet (fail)
        clear y2 y3
        go_wp2_with fail
        go_ret
        exact ⟨ret_bool E.out.symm, ⟨_, by rw [HWR.out, World.drewN_drewN]⟩⟩
      cases e4 : decide (l[k'].2 < l[k' + 1].2)
      case true =>
        have EE := okS_s hlen e1 e2 e3 e4
        have E := hide (chB_no hlen EE)
        clear EE t0 t1 s0 s1 hc hok CW
        generalize l[k' + 1].1 = p0 at *
        generalize l[k' + 1].2 = p1 at *
        generalize l[k'].1 = q0 at *
        generalize l[k'].2 = q1 at *
        go_wp2_with (first | (go_at_call 13; (with_reducible refine (l00In_is e1).mono ?_); rintro e w' ⟨rfl, rfl⟩) | (go_at_call 13; (with_reducible refine (l00In_is e2).mono ?_); rintro e w' ⟨rfl, rfl⟩))
        have y2 := Y.out.1
        have y3 := Y.out.2
        skip
        go_quiet (fail)
        clear y2 y3
        go_wp2_with fail
        go_ret
        exact ⟨ret_bool E.out.symm, ⟨_, by rw [HWR.out, World.drewN_drewN]⟩⟩
      have EE := okS_s hlen e1 e2 e3 e4
      have E := hide (okS_more hok.out EE)
      clear EE t0 t1 s0 s1 hc hok CW
      generalize l[k' + 1].1 = p0 at *
      generalize l[k' + 1].2 = p1 at *
      generalize l[k'].1 = q0 at *
      generalize l[k'].2 = q1 at *
      go_wp2_with (first | (go_at_call 13; (with_reducible refine (l00In_is e1).mono ?_); rintro e w' ⟨rfl, rfl⟩) | (go_at_call 13; (with_reducible refine (l00In_is e2).mono ?_); rintro e w' ⟨rfl, rfl⟩))
      have y2 := Y.out.1
      have y3 := Y.out.2
      skip
      go_quiet (fail)
      clear y2 y3
      go_wp2_with fail
      go_roundw
      case rel => exact ⟨k' + 1 + 1, by omega, by go_num, E, ⟨_, by rw [HWR.out, World.drewN_drewN]⟩⟩
      case measure => simp [intOf]; omega
    · obtain rfl : k = n := by omega
      have E := hide (chB_end (fun j hj => hok.out j (by rw [H1.out] at hj; exact hj)))
      rw [H1.out] at E
      clear hok
      cases e5 : inR (k : Int) 1 20
      all_goals (go_wp2_with (first | (go_at_call 13; (with_reducible refine (l00In_is e5).mono ?_); rintro e w' ⟨rfl, rfl⟩)); go_ret; exact ⟨ret_bool (by rw [E.out, e5]), ⟨mm, by first | exact hwr | rfl⟩⟩)

set_option maxRecDepth 100000 in
set_option maxHeartbeats 2000000 in
theorem implValidChart_any (A : Option Addr) (n c lo hi : Nat) (l : Chr) (hn : n ≤ 1048576) (w : World) (hl : l.length = n) (h : Rd w lo hi 2 A n (rChartStep l)) (hhi : hi ≤ w.heap.size) :
    Calls Tryz.prog 77 #[.slice A n c] w fun e w' => e = .returned (.bool (chB l)) ∧ Below w.heap.size w w' := by
  have H1 := hide hl
  have H2 := hide h
  clear hl h
  go_enter Tryz.func77, Tryz.ntmps77
  go_wp2
  go_loopw [7] (fun i wr => ∃ k : Nat, k ≤ n ∧ i = .int .i64 k ∧ Hid (∀ j, j < k → okS l j = true) ∧ Below w.heap.size w wr) (fun i _ => n - (intOf i).toNat)
  case atStart => exact ⟨0, by omega, rfl, hide (fun j hj => absurd hj (by omega)), Below.refl _ _⟩
  case round =>
    obtain ⟨k, hk, rfl, hok, hbr⟩ := hrel
    by_cases hlt : k < n
    · skip
      have hlen : k < l.length := by rw [H1.out]; exact hlt
      obtain ⟨t0, t1⟩ := rChartStep_at l k hlen
      obtain ⟨b, off, rfl, hb1', hb2', hc⟩ := H2.out.2 (by omega)
      have hbl : b < wr.heap.size := by have := hbr.size; omega
      have c0 : wr.cell? ⟨b, off + k * 2, none⟩ = some (.int .i64 l[k].1) := (hbr.cell (p := ⟨b, _, none⟩) (by show b < _; omega)).trans (hc _ _ t0)
      have c1 : wr.cell? ⟨b, off + k * 2 + 1, none⟩ = some (.int .i64 l[k].2) := (hbr.cell (p := ⟨b, _, none⟩) (by show b < _; omega)).trans (hc _ _ t1)
      cases e1 : inR l[k].1 1 1000
      case false =>
        have E := hide (chB_no hlen (okS_1 hlen e1))
        clear t0 t1 hc hok
        generalize l[k].1 = p0 at *
        generalize l[k].2 = p1 at *
        go_wp2_with (first | (go_at_call 29; (with_reducible refine (within_is e1).mono ?_); rintro e w' ⟨rfl, rfl⟩))
        go_ret
        exact ⟨ret_bool E.out.symm, hbr.alloc hbr.size _⟩
      cases e2 : inR l[k].2 0 50000
      case false =>
        have E := hide (chB_no hlen (okS_2 hlen e2))
        clear t0 t1 hc hok
        generalize l[k].1 = p0 at *
        generalize l[k].2 = p1 at *
        go_wp2_with (first | (go_at_call 29; (with_reducible refine (within_is e1).mono ?_); rintro e w' ⟨rfl, rfl⟩) | (go_at_call 29; (with_reducible refine (within_is e2).mono ?_); rintro e w' ⟨rfl, rfl⟩))
        go_ret
        exact ⟨ret_bool E.out.symm, hbr.alloc hbr.size _⟩
      by_cases hk0 : k = 0
      · subst hk0
        have E := hide (okS_more hok.out (okS_0 hlen e1 e2))
        clear t0 t1 hc hok
        simp only [Nat.zero_mul, Nat.add_zero] at c0 c1
        generalize l[0].1 = p0 at *
        generalize l[0].2 = p1 at *
        go_wp2_with (first | (go_at_call 29; (with_reducible refine (within_is e1).mono ?_); rintro e w' ⟨rfl, rfl⟩) | (go_at_call 29; (with_reducible refine (within_is e2).mono ?_); rintro e w' ⟨rfl, rfl⟩))
        go_quiet (fail)
        go_wp2_with fail
        go_roundw
        case rel => exact ⟨0 + 1, by omega, by go_num, E, (hbr.alloc hbr.size _).trans (Joins.below_draws _ _ _)⟩
        case measure => simp [intOf]; omega
      obtain ⟨k', rfl⟩ : ∃ k', k = k' + 1 := ⟨k - 1, by omega⟩
      clear hk0
      obtain ⟨s0, s1⟩ := rChartStep_at l k' (by omega)
      have d0 : wr.cell? ⟨b, off + k' * 2, none⟩ = some (.int .i64 l[k'].1) := (hbr.cell (p := ⟨b, _, none⟩) (by show b < _; omega)).trans (hc _ _ s0)
      have d1 : wr.cell? ⟨b, off + k' * 2 + 1, none⟩ = some (.int .i64 l[k'].2) := (hbr.cell (p := ⟨b, _, none⟩) (by show b < _; omega)).trans (hc _ _ s1)
      have y0 : (0 : Int) ≤ (k' : Int) := by omega
      have y1 : (k' : Int) < (n : Int) := by omega
      have y2 : IntKind.i64.wrap ((k' : Int) + 1 - 1) = (k' : Int) := by rw [Int.add_sub_cancel]; exact IntWalk.i64_in _ ⟨by omega, by omega⟩
      have y3 : IntKind.i64.wrap (k' : Int) = (k' : Int) := IntWalk.i64_in _ ⟨by omega, by omega⟩
      have Y := hide (And.intro y2 y3)
      clear y2 y3
      cases e3 : decide (l[k' + 1].1 ≤ l[k'].1)
      case true =>
        have EE := okS_s hlen e1 e2 e3 (b2 := _) rfl
        rw [Bool.true_or] at EE
        have E := hide (chB_no hlen EE)
        clear EE t0 t1 s0 s1 hc hok
        generalize l[k' + 1].1 = p0 at *
        generalize l[k' + 1].2 = p1 at *
        generalize l[k'].1 = q0 at *
        generalize l[k'].2 = q1 at *
        go_wp2_with (first | (go_at_call 29; (with_reducible refine (within_is e1).mono ?_); rintro e w' ⟨rfl, rfl⟩) | (go_at_call 29; (with_reducible refine (within_is e2).mono ?_); rintro e w' ⟨rfl, rfl⟩))
        have y2 := Y.out.1
        have y3 := Y.out.2
        skip
        go_quiet (fail)
        clear y2 y3
        go_wp2_with fail
        go_ret
        exact ⟨ret_bool E.out.symm, (hbr.alloc hbr.size _).trans (Joins.below_draws _ _ _)⟩
      cases e4 : decide (l[k'].2 < l[k' + 1].2)
      case true =>
        have EE := okS_s hlen e1 e2 e3 e4
        have E := hide (chB_no hlen EE)
        clear EE t0 t1 s0 s1 hc hok
        generalize l[k' + 1].1 = p0 at *
        generalize l[k' + 1].2 = p1 at *
        generalize l[k'].1 = q0 at *
        generalize l[k'].2 = q1 at *
        go_wp2_with (first | (go_at_call 29; (with_reducible refine (within_is e1).mono ?_); rintro e w' ⟨rfl, rfl⟩) | (go_at_call 29; (with_reducible refine (within_is e2).mono ?_); rintro e w' ⟨rfl, rfl⟩))
        have y2 := Y.out.1
        have y3 := Y.out.2
        skip
        go_quiet (fail)
        clear y2 y3
        go_wp2_with fail
        go_ret
        exact ⟨ret_bool E.out.symm, (hbr.alloc hbr.size _).trans (Joins.below_draws _ _ _)⟩
      have EE := okS_s hlen e1 e2 e3 e4
      have E := hide (okS_more hok.out EE)
      clear EE t0 t1 s0 s1 hc hok
      generalize l[k' + 1].1 = p0 at *
      generalize l[k' + 1].2 = p1 at *
      generalize l[k'].1 = q0 at *
      generalize l[k'].2 = q1 at *
      go_wp2_with (first | (go_at_call 29; (with_reducible refine (within_is e1).mono ?_); rintro e w' ⟨rfl, rfl⟩) | (go_at_call 29; (with_reducible refine (within_is e2).mono ?_); rintro e w' ⟨rfl, rfl⟩))
      have y2 := Y.out.1
      have y3 := Y.out.2
      skip
      go_quiet (fail)
      clear y2 y3
      go_wp2_with fail
      go_roundw
      case rel => exact ⟨k' + 1 + 1, by omega, by go_num, E, (hbr.alloc hbr.size _).trans (Joins.below_draws _ _ _)⟩
      case measure => simp [intOf]; omega
    · obtain rfl : k = n := by omega
      have E := hide (chB_end (fun j hj => hok.out j (by rw [H1.out] at hj; exact hj)))
      rw [H1.out] at E
      clear hok
      unfold inR at E
      by_cases q1 : 1 ≤ (k : Int)
      · by_cases q2 : (k : Int) ≤ 20
        all_goals (go_wp2_with fail; go_ret; exact ⟨ret_bool (by rw [E.out]; simp [q1, q2]; try omega), hbr⟩)
      · go_wp2_with fail
        go_ret
        exact ⟨ret_bool (by rw [E.out]; first | (simp; done) | (simp; omega)), hbr⟩

set_option maxRecDepth 100000 in
set_option maxHeartbeats 2000000 in
theorem l03Last_any (A : Option Addr) (n c lo hi : Nat) (l : Chr) (hn : n ≤ 1048576) (hp : 1 ≤ n) (w : World) (hl : l.length = n) (h : Rd w lo hi 2 A n (rChartStep l)) :
    Calls Tryz.prog 68 #[.slice A n c] w fun e w' => e = .returned (.int .i64 (lastR l)) ∧ w' = w := by
  subst hl
  have hlt : l.length - 1 < l.length := by omega
  obtain ⟨t0, t1⟩ := rChartStep_at l (l.length - 1) hlt
  obtain ⟨b, off, rfl, hb1', hb2', hc⟩ := h.2 (by omega)
  have c0 : w.cell? ⟨b, off + (l.length - 1) * 2, none⟩ = some (.int .i64 l[l.length - 1].1) := hc _ _ t0
  have HV : Hid (lastR l = l[l.length - 1].1) := hide (by unfold lastR; rw [List.getD, List.getElem?_eq_getElem hlt]; rfl)
  clear t0 t1 hc h
  generalize l[l.length - 1].1 = p at *
  clear hlt
  generalize l.length = n at *
  obtain ⟨m, rfl⟩ : ∃ m, n = m + 1 := ⟨n - 1, by omega⟩
  simp only [Nat.add_sub_cancel] at c0
  go_enter Tryz.func68, Tryz.ntmps68
  go_wp2_with fail
  go_ret
  exact ⟨ret_int HV.out.symm, rfl⟩

end Go.Proofs.YtajjophmngabbaaGreatDoor
