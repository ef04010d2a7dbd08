/-
  VALID CRANES, squares of distances: the reference's and the program's. No condition but those that each theorem names.
-/
import Derived.Test.YtajjophmngabbaaGreatDoorName
import Derived.Test.YtajjophmngabbaaGreatDoorChart
namespace Go.Proofs.YtajjophmngabbaaGreatDoor
open Go.RowKit
set_option linter.unusedVariables false

def plB (x y : Int) : Bool := inR x (-10000) 10000 && inR y (-10000) 10000
theorem plB_true {x y : Int} (h : plB x y = true) : -10000 ≤ x ∧ x ≤ 10000 ∧ -10000 ≤ y ∧ y ≤ 10000 := by
  simp [plB, inR] at h; omega
/-- The square of a distance. -/
def sqD (x y x' y' : Int) : Int := (x - x') * (x - x') + (y - y') * (y - y')
theorem sq_bd {d q : Int} (h1 : -q ≤ d) (h2 : d ≤ q) : 0 ≤ d * d ∧ d * d ≤ q * q := by
  rcases Int.le_total 0 d with h | h
  · exact ⟨Int.mul_nonneg h h, Int.mul_le_mul h2 h2 h (by omega)⟩
  · have e : d * d = (-d) * (-d) := by rw [Int.neg_mul_neg]
    rw [e]
    exact ⟨Int.mul_nonneg (by omega) (by omega), Int.mul_le_mul (by omega) (by omega) (by omega) (by omega)⟩
theorem sqD_bd {x y x' y' : Int} (h : plB x y = true) (h' : plB x' y' = true) : 0 ≤ sqD x y x' y' ∧ sqD x y x' y' ≤ 800000000 := by
  obtain ⟨a1, a2, a3, a4⟩ := plB_true h
  obtain ⟨b1, b2, b3, b4⟩ := plB_true h'
  have h1 := sq_bd (d := x - x') (q := 20000) (by omega) (by omega)
  have h2 := sq_bd (d := y - y') (q := 20000) (by omega) (by omega)
  unfold sqD; omega
theorem sqD_comm (x y x' y' : Int) : sqD x y x' y' = sqD x' y' x y := by
  unfold sqD
  rw [show x' - x = -(x - x') by omega, show y' - y = -(y - y') by omega, Int.neg_mul_neg, Int.neg_mul_neg]
/-- Is a crane as it should be? -/
def crB (c : Crn) : Bool := nmB c.nm && (plB c.x c.y && (inR c.h 1 2000 && (inR c.j 1 1000 && (inR c.b 0 c.j && (chB c.ch && decide (lastR c.ch ≤ c.j))))))
theorem crB_true {c : Crn} (h : crB c = true) : nmB c.nm = true ∧ plB c.x c.y = true ∧ inR c.h 1 2000 = true ∧ inR c.j 1 1000 = true ∧ inR c.b 0 c.j = true ∧ chB c.ch = true ∧ lastR c.ch ≤ c.j := by
  simpa [crB] using h
theorem lastR_at {l : Chr} {m : Nat} (h : l.length = m + 1) (hm : m < l.length) : lastR l = l[m].1 := by
  have e : l.length - 1 = m := by omega
  rw [lastR, e, List.getD, List.getElem?_eq_getElem hm]; rfl
theorem nm_is {s : ByteArray} {b : Bool} (hs : s.size ≤ maxLen) (h : nmB s = b) {w : World} : Calls Tryz.prog 65 #[.string s] w fun e w' => e = .returned (.bool b) ∧ w = w' := by rw [← h]; exact specIsName_any s hs w
theorem nmi_is {s : ByteArray} {b : Bool} (hs : s.size ≤ maxLen) (h : nmB s = b) {w : World} : Calls Tryz.prog 75 #[.string s] w fun e w' => e = .returned (.bool b) ∧ w = w' := by rw [← h]; exact implIsName_any s hs w

theorem chq_is (A : Option Addr) (n c lo hi : Nat) (l : Chr) (hn : n ≤ 1048576) {w : World} (hl : l.length = n) (h : Rd w lo hi 2 A n (rChartStep l)) (hhi : hi ≤ w.heap.size) {b : Bool} (hb : chB l = b) :
    Calls Tryz.prog 67 #[.slice A n c] w fun e w' => e = .returned (.bool b) ∧ ∃ m, w' = w.drewN m := by
  rw [← hb]; exact l03Ok_any A n c lo hi l hn w hl h hhi
theorem chi_is (A : Option Addr) (n c lo hi : Nat) (l : Chr) (hn : n ≤ 1048576) {w : World} (hl : l.length = n) (h : Rd w lo hi 2 A n (rChartStep l)) (hhi : hi ≤ w.heap.size) {b : Bool} (hb : chB l = b) :
    Calls Tryz.prog 77 #[.slice A n c] w fun e w' => e = .returned (.bool b) ∧ Below w.heap.size w w' := by
  rw [← hb]; exact implValidChart_any A n c lo hi l hn w hl h hhi

set_option maxRecDepth 100000 in
set_option maxHeartbeats 2000000 in
theorem l02Ok_any (x y : Int) (w : World) :
    Calls Tryz.prog 66 #[.agg #[.int .i64 x, .int .i64 y]] w fun e w' => e = .returned (.bool (plB x y)) ∧ Below w.heap.size w w' := by
  unfold plB
  cases e1 : inR x (-10000) 10000
  case false =>
    go_enter Tryz.func66, Tryz.ntmps66
    go_wp2_with (first | (go_at_call 13; (with_reducible refine (l00In_is e1).mono ?_); rintro e w' ⟨rfl, rfl⟩))
    go_ret
    exact ⟨ret_bool (by simp), (Below.refl _ _).alloc (Nat.le_refl _) _⟩
  cases e2 : inR y (-10000) 10000
  case false =>
    go_enter Tryz.func66, Tryz.ntmps66
    go_wp2_with (first | (go_at_call 13; (with_reducible refine (l00In_is e1).mono ?_); rintro e w' ⟨rfl, rfl⟩) | (go_at_call 13; (with_reducible refine (l00In_is e2).mono ?_); rintro e w' ⟨rfl, rfl⟩))
    go_ret
    exact ⟨ret_bool (by simp), (Below.refl _ _).alloc (Nat.le_refl _) _⟩
  go_enter Tryz.func66, Tryz.ntmps66
  go_wp2_with (first | (go_at_call 13; (with_reducible refine (l00In_is e1).mono ?_); rintro e w' ⟨rfl, rfl⟩) | (go_at_call 13; (with_reducible refine (l00In_is e2).mono ?_); rintro e w' ⟨rfl, rfl⟩))
  go_ret
  exact ⟨ret_bool (by simp), (Below.refl _ _).alloc (Nat.le_refl _) _⟩

set_option maxRecDepth 100000 in
set_option maxHeartbeats 2000000 in
theorem l02Ok_is {x y : Int} {b : Bool} (h : plB x y = b) {w : World} :
    Calls Tryz.prog 66 #[.agg #[.int .i64 x, .int .i64 y]] w fun e w' => e = .returned (.bool b) ∧ Below w.heap.size w w' := by
  rw [← h]; exact l02Ok_any x y w

set_option maxRecDepth 100000 in
set_option maxHeartbeats 2000000 in
theorem implValidPlace_any (x y : Int) (w : World) :
    Calls Tryz.prog 76 #[.agg #[.int .i64 x, .int .i64 y]] w fun e w' => e = .returned (.bool (plB x y)) ∧ Below w.heap.size w w' := by
  unfold plB
  cases e1 : inR x (-10000) 10000
  case false =>
    go_enter Tryz.func76, Tryz.ntmps76
    go_wp2_with (first | (go_at_call 29; (with_reducible refine (within_is e1).mono ?_); rintro e w' ⟨rfl, rfl⟩))
    go_ret
    exact ⟨ret_bool (by simp), (Below.refl _ _).alloc (Nat.le_refl _) _⟩
  cases e2 : inR y (-10000) 10000
  case false =>
    go_enter Tryz.func76, Tryz.ntmps76
    go_wp2_with (first | (go_at_call 29; (with_reducible refine (within_is e1).mono ?_); rintro e w' ⟨rfl, rfl⟩) | (go_at_call 29; (with_reducible refine (within_is e2).mono ?_); rintro e w' ⟨rfl, rfl⟩))
    go_ret
    exact ⟨ret_bool (by simp), (Below.refl _ _).alloc (Nat.le_refl _) _⟩
  go_enter Tryz.func76, Tryz.ntmps76
  go_wp2_with (first | (go_at_call 29; (with_reducible refine (within_is e1).mono ?_); rintro e w' ⟨rfl, rfl⟩) | (go_at_call 29; (with_reducible refine (within_is e2).mono ?_); rintro e w' ⟨rfl, rfl⟩))
  go_ret
  exact ⟨ret_bool (by simp), (Below.refl _ _).alloc (Nat.le_refl _) _⟩

set_option maxRecDepth 100000 in
set_option maxHeartbeats 2000000 in
theorem implValidPlace_is {x y : Int} {b : Bool} (h : plB x y = b) {w : World} :
    Calls Tryz.prog 76 #[.agg #[.int .i64 x, .int .i64 y]] w fun e w' => e = .returned (.bool b) ∧ Below w.heap.size w w' := by
  rw [← h]; exact implValidPlace_any x y w

set_option maxRecDepth 100000 in
set_option maxHeartbeats 2000000 in
theorem l02Square_any (x y x' y' : Int) (h : plB x y = true) (h' : plB x' y' = true) (w : World) :
    Calls Tryz.prog 69 #[.agg #[.int .i64 x, .int .i64 y], .agg #[.int .i64 x', .int .i64 y']] w fun e w' => e = .returned (.int .i64 (sqD x y x' y')) ∧ Below w.heap.size w w' := by
  obtain ⟨a1, a2, a3, a4⟩ := plB_true h
  obtain ⟨b1, b2, b3, b4⟩ := plB_true h'
  obtain ⟨p1, p2⟩ := sq_bd (d := x - x') (q := 20000) (by omega) (by omega)
  obtain ⟨q1, q2⟩ := sq_bd (d := y - y') (q := 20000) (by omega) (by omega)
  clear h h'
  unfold sqD
  go_enter Tryz.func69, Tryz.ntmps69
  go_wp2_with fail
  go_ret
  exact ⟨ret_int (by first | rfl | omega), (((Below.refl _ _).alloc (Nat.le_refl _) _).alloc (by simp) _)⟩

set_option maxRecDepth 100000 in
set_option maxHeartbeats 2000000 in
theorem square_any (x y x' y' : Int) (h : plB x y = true) (h' : plB x' y' = true) (w : World) :
    Calls Tryz.prog 78 #[.agg #[.int .i64 x, .int .i64 y], .agg #[.int .i64 x', .int .i64 y']] w fun e w' => e = .returned (.int .i64 (sqD x y x' y')) ∧ Below w.heap.size w w' := by
  obtain ⟨a1, a2, a3, a4⟩ := plB_true h
  obtain ⟨b1, b2, b3, b4⟩ := plB_true h'
  obtain ⟨p1, p2⟩ := sq_bd (d := x - x') (q := 20000) (by omega) (by omega)
  obtain ⟨q1, q2⟩ := sq_bd (d := y - y') (q := 20000) (by omega) (by omega)
  clear h h'
  unfold sqD
  go_enter Tryz.func78, Tryz.ntmps78
  go_wp2_with fail
  go_quiet (fail)
  go_wp2_with fail
  go_ret
  exact ⟨ret_int (by first | rfl | omega), (((Below.refl _ _).alloc (Nat.le_refl _) _).alloc (by simp) _).trans (Joins.below_draws _ _ _)⟩

set_option maxRecDepth 100000 in
set_option maxHeartbeats 2000000 in
theorem l04Far_any (x y x' y' : Int) (h : plB x y = true) (h' : plB x' y' = true) (n : Int) (hn0 : 0 ≤ n) (hn : n ≤ 2000) (w : World) :
    Calls Tryz.prog 50 #[.agg #[.int .i64 x, .int .i64 y], .agg #[.int .i64 x', .int .i64 y'], .int .i64 n] w fun e w' => e = .returned (.bool (decide (n * n < sqD x y x' y'))) ∧ Below w.heap.size w w' := by
  obtain ⟨s1, s2⟩ := sqD_bd h h'
  obtain ⟨p1, p2⟩ := sq_bd (d := n) (q := 2000) (by omega) (by omega)
  have HP := hide h
  have HP' := hide h'
  clear h h'
  go_enter Tryz.func50, Tryz.ntmps50
  go_wp2_with fail
  refine (l02Square_any x y x' y' HP.out HP'.out _).mono ?_
  rintro e w1 ⟨rfl, hb1⟩
  go_wp2_with fail
  all_goals (go_ret; exact ⟨ret_bool (by first | rfl | (simp; done) | (simp; omega)), (((Below.refl _ _).alloc (Nat.le_refl _) _).alloc (by simp) _).trans (hb1.mono (by simp; try omega))⟩)

set_option maxRecDepth 100000 in
set_option maxHeartbeats 2000000 in
theorem near_any (x y x' y' : Int) (h : plB x y = true) (h' : plB x' y' = true) (n : Int) (hn0 : 0 ≤ n) (hn : n ≤ 2000) (w : World) :
    Calls Tryz.prog 57 #[.agg #[.int .i64 x, .int .i64 y], .agg #[.int .i64 x', .int .i64 y'], .int .i64 n] w fun e w' => e = .returned (.bool (decide (sqD x y x' y' ≤ n * n))) ∧ Below w.heap.size w w' := by
  obtain ⟨s1, s2⟩ := sqD_bd h h'
  obtain ⟨p1, p2⟩ := sq_bd (d := n) (q := 2000) (by omega) (by omega)
  have HP := hide h
  have HP' := hide h'
  clear h h'
  go_enter Tryz.func57, Tryz.ntmps57
  go_wp2_with fail
  refine (square_any x y x' y' HP.out HP'.out _).mono ?_
  rintro e w1 ⟨rfl, hb1⟩
  go_wp2_with fail
  all_goals (go_ret; exact ⟨ret_bool (by first | rfl | (simp; done) | (simp; omega)), (((Below.refl _ _).alloc (Nat.le_refl _) _).alloc (by simp) _).trans (hb1.mono (by simp; try omega))⟩)

set_option maxRecDepth 100000 in
set_option maxHeartbeats 2000000 in
theorem l04Ok_any (b o lo hi : Nat) (own : Bool) (c : Crn) (hch : c.ch.length ≤ 1048576) (hnm : c.nm.size ≤ maxLen) (w : World) (hb : b < w.heap.size) (hhi : hi ≤ w.heap.size) (h : CrAt w lo hi own b o c) :
    Calls Tryz.prog 49 #[.pointer (some ⟨b, o, none⟩)] w fun e w' => e = .returned (.bool (crB c)) ∧ Below w.heap.size w w' := by
  obtain ⟨Ai, ci, k, _, hr, _⟩ := h
  have c0 := k 0 _ rfl
  have c1 := k 1 _ rfl
  have c2 := k 2 _ rfl
  have c3 := k 3 _ rfl
  have c4 := k 4 _ rfl
  have c5 := k 5 _ rfl
  have c6 := k 6 _ rfl
  clear k
  obtain ⟨nm, x, y, h, j, bb, ch⟩ := c
  dsimp only at c0 c1 c2 c3 c4 c5 c6 hch hnm hr
  simp only [Nat.add_zero] at c0
  have HR := hide hr
  have HN := hide hnm
  clear hr hnm
  obtain ⟨ni, hni⟩ : ∃ ni, ch.length = ni := ⟨_, rfl⟩
  have HL := hide hni
  rw [hni] at c6 hch HR
  clear hni
  unfold crB
  dsimp only
  cases e1 : nmB nm
  case false =>
    have hbi : b < w.heap.size := hb
    go_enter Tryz.func49, Tryz.ntmps49
    go_wp2_with (first | (go_at_call 65; (with_reducible refine (nm_is HN.out e1).mono ?_); rintro e w' ⟨rfl, rfl⟩))
    go_ret
    exact ⟨ret_bool (by simp), Below.refl _ _⟩
  cases e2 : plB x y
  case false =>
    have hbi : b < w.heap.size := hb
    go_enter Tryz.func49, Tryz.ntmps49
    go_wp2_with (first | (go_at_call 65; (with_reducible refine (nm_is HN.out e1).mono ?_); rintro e w' ⟨rfl, rfl⟩) | (go_at_call 66; (with_reducible refine (l02Ok_is e2).mono ?_); rintro e w1 ⟨rfl, hb1⟩; have HB := hide hb1; have hs1 := hb1.size; (replace c2 := (hb1.cell (p := ⟨b, _, none⟩) hb).trans c2); (replace c3 := (hb1.cell (p := ⟨b, _, none⟩) hb).trans c3); (replace c4 := (hb1.cell (p := ⟨b, _, none⟩) hb).trans c4); (replace c5 := (hb1.cell (p := ⟨b, _, none⟩) hb).trans c5); (replace c6 := (hb1.cell (p := ⟨b, _, none⟩) hb).trans c6); clear hb1))
    go_ret
    exact ⟨ret_bool (by simp), HB.out⟩
  cases e3 : inR h 1 2000
  case false =>
    have hbi : b < w.heap.size := hb
    go_enter Tryz.func49, Tryz.ntmps49
    go_wp2_with (first | (go_at_call 65; (with_reducible refine (nm_is HN.out e1).mono ?_); rintro e w' ⟨rfl, rfl⟩) | (go_at_call 66; (with_reducible refine (l02Ok_is e2).mono ?_); rintro e w1 ⟨rfl, hb1⟩; have HB := hide hb1; have hs1 := hb1.size; (replace c2 := (hb1.cell (p := ⟨b, _, none⟩) hb).trans c2); (replace c3 := (hb1.cell (p := ⟨b, _, none⟩) hb).trans c3); (replace c4 := (hb1.cell (p := ⟨b, _, none⟩) hb).trans c4); (replace c5 := (hb1.cell (p := ⟨b, _, none⟩) hb).trans c5); (replace c6 := (hb1.cell (p := ⟨b, _, none⟩) hb).trans c6); clear hb1) | (go_at_call 13; (with_reducible refine (l00In_is e3).mono ?_); rintro e w' ⟨rfl, hw⟩; obtain rfl := hw.symm))
    go_ret
    exact ⟨ret_bool (by simp), HB.out⟩
  cases e4 : inR j 1 1000
  case false =>
    have hbi : b < w.heap.size := hb
    go_enter Tryz.func49, Tryz.ntmps49
    go_wp2_with (first | (go_at_call 65; (with_reducible refine (nm_is HN.out e1).mono ?_); rintro e w' ⟨rfl, rfl⟩) | (go_at_call 66; (with_reducible refine (l02Ok_is e2).mono ?_); rintro e w1 ⟨rfl, hb1⟩; have HB := hide hb1; have hs1 := hb1.size; (replace c2 := (hb1.cell (p := ⟨b, _, none⟩) hb).trans c2); (replace c3 := (hb1.cell (p := ⟨b, _, none⟩) hb).trans c3); (replace c4 := (hb1.cell (p := ⟨b, _, none⟩) hb).trans c4); (replace c5 := (hb1.cell (p := ⟨b, _, none⟩) hb).trans c5); (replace c6 := (hb1.cell (p := ⟨b, _, none⟩) hb).trans c6); clear hb1) | (go_at_call 13; (with_reducible refine (l00In_is e3).mono ?_); rintro e w' ⟨rfl, hw⟩; obtain rfl := hw.symm) | (go_at_call 13; (with_reducible refine (l00In_is e4).mono ?_); rintro e w' ⟨rfl, hw⟩; obtain rfl := hw.symm))
    go_ret
    exact ⟨ret_bool (by simp), HB.out⟩
  cases e5 : inR bb 0 j
  case false =>
    have hbi : b < w.heap.size := hb
    go_enter Tryz.func49, Tryz.ntmps49
    go_wp2_with (first | (go_at_call 65; (with_reducible refine (nm_is HN.out e1).mono ?_); rintro e w' ⟨rfl, rfl⟩) | (go_at_call 66; (with_reducible refine (l02Ok_is e2).mono ?_); rintro e w1 ⟨rfl, hb1⟩; have HB := hide hb1; have hs1 := hb1.size; (replace c2 := (hb1.cell (p := ⟨b, _, none⟩) hb).trans c2); (replace c3 := (hb1.cell (p := ⟨b, _, none⟩) hb).trans c3); (replace c4 := (hb1.cell (p := ⟨b, _, none⟩) hb).trans c4); (replace c5 := (hb1.cell (p := ⟨b, _, none⟩) hb).trans c5); (replace c6 := (hb1.cell (p := ⟨b, _, none⟩) hb).trans c6); clear hb1) | (go_at_call 13; (with_reducible refine (l00In_is e3).mono ?_); rintro e w' ⟨rfl, hw⟩; obtain rfl := hw.symm) | (go_at_call 13; (with_reducible refine (l00In_is e4).mono ?_); rintro e w' ⟨rfl, hw⟩; obtain rfl := hw.symm))
    go_quiet (first | (go_at_call 13; exact Calls.quiet_of_same (l00In_is e5)))
    go_wp2_with fail
    go_ret
    exact ⟨ret_bool (by simp), HB.out.trans (Joins.below_draws _ _ _)⟩
  cases e6 : chB ch
  case false =>
    have hbi : b < w.heap.size := hb
    go_enter Tryz.func49, Tryz.ntmps49
    go_wp2_with (first | (go_at_call 65; (with_reducible refine (nm_is HN.out e1).mono ?_); rintro e w' ⟨rfl, rfl⟩) | (go_at_call 66; (with_reducible refine (l02Ok_is e2).mono ?_); rintro e w1 ⟨rfl, hb1⟩; have HB := hide hb1; have hs1 := hb1.size; (replace c2 := (hb1.cell (p := ⟨b, _, none⟩) hb).trans c2); (replace c3 := (hb1.cell (p := ⟨b, _, none⟩) hb).trans c3); (replace c4 := (hb1.cell (p := ⟨b, _, none⟩) hb).trans c4); (replace c5 := (hb1.cell (p := ⟨b, _, none⟩) hb).trans c5); (replace c6 := (hb1.cell (p := ⟨b, _, none⟩) hb).trans c6); clear hb1) | (go_at_call 13; (with_reducible refine (l00In_is e3).mono ?_); rintro e w' ⟨rfl, hw⟩; obtain rfl := hw.symm) | (go_at_call 13; (with_reducible refine (l00In_is e4).mono ?_); rintro e w' ⟨rfl, hw⟩; obtain rfl := hw.symm))
    have hr1 := HR.out.below HB.out hhi
    have hh1 : hi ≤ w1.heap.size := by omega
    go_quiet (first | (go_at_call 13; exact Calls.quiet_of_same (l00In_is e5)) | (go_at_call 67; exact Calls.quiet_of (chq_is Ai ni ci lo hi ch hch HL.out (hr1.drewN _) hh1 e6)))
    go_wp2_with fail
    go_ret
    exact ⟨ret_bool (by simp), HB.out.trans (Joins.below_draws _ _ _)⟩
  cases e7 : decide (lastR ch ≤ j)
  case false =>
    have hbi : b < w.heap.size := hb
    go_enter Tryz.func49, Tryz.ntmps49
    go_wp2_with (first | (go_at_call 65; (with_reducible refine (nm_is HN.out e1).mono ?_); rintro e w' ⟨rfl, rfl⟩) | (go_at_call 66; (with_reducible refine (l02Ok_is e2).mono ?_); rintro e w1 ⟨rfl, hb1⟩; have HB := hide hb1; have hs1 := hb1.size; (replace c2 := (hb1.cell (p := ⟨b, _, none⟩) hb).trans c2); (replace c3 := (hb1.cell (p := ⟨b, _, none⟩) hb).trans c3); (replace c4 := (hb1.cell (p := ⟨b, _, none⟩) hb).trans c4); (replace c5 := (hb1.cell (p := ⟨b, _, none⟩) hb).trans c5); (replace c6 := (hb1.cell (p := ⟨b, _, none⟩) hb).trans c6); clear hb1) | (go_at_call 13; (with_reducible refine (l00In_is e3).mono ?_); rintro e w' ⟨rfl, hw⟩; obtain rfl := hw.symm) | (go_at_call 13; (with_reducible refine (l00In_is e4).mono ?_); rintro e w' ⟨rfl, hw⟩; obtain rfl := hw.symm))
    have hr1 := HR.out.below HB.out hhi
    have hh1 : hi ≤ w1.heap.size := by omega
    obtain ⟨_, hch1, _⟩ := chB_true e6
    rw [HL.out] at hch1
    go_quiet (first | (go_at_call 13; exact Calls.quiet_of_same (l00In_is e5)) | (go_at_call 67; exact Calls.quiet_of (chq_is Ai ni ci lo hi ch hch HL.out (hr1.drewN _) hh1 e6)) | (go_at_call 68; exact Calls.quiet_of_same (l03Last_any Ai ni ci lo hi ch hch hch1 _ HL.out (hr1.drewN _))))
    go_wp2_with fail
    go_ret
    exact ⟨ret_bool (by simp), HB.out.trans (Joins.below_draws _ _ _)⟩
  have hbi : b < w.heap.size := hb
  go_enter Tryz.func49, Tryz.ntmps49
  go_wp2_with (first | (go_at_call 65; (with_reducible refine (nm_is HN.out e1).mono ?_); rintro e w' ⟨rfl, rfl⟩) | (go_at_call 66; (with_reducible refine (l02Ok_is e2).mono ?_); rintro e w1 ⟨rfl, hb1⟩; have HB := hide hb1; have hs1 := hb1.size; (replace c2 := (hb1.cell (p := ⟨b, _, none⟩) hb).trans c2); (replace c3 := (hb1.cell (p := ⟨b, _, none⟩) hb).trans c3); (replace c4 := (hb1.cell (p := ⟨b, _, none⟩) hb).trans c4); (replace c5 := (hb1.cell (p := ⟨b, _, none⟩) hb).trans c5); (replace c6 := (hb1.cell (p := ⟨b, _, none⟩) hb).trans c6); clear hb1) | (go_at_call 13; (with_reducible refine (l00In_is e3).mono ?_); rintro e w' ⟨rfl, hw⟩; obtain rfl := hw.symm) | (go_at_call 13; (with_reducible refine (l00In_is e4).mono ?_); rintro e w' ⟨rfl, hw⟩; obtain rfl := hw.symm))
  have hr1 := HR.out.below HB.out hhi
  have hh1 : hi ≤ w1.heap.size := by omega
  obtain ⟨_, hch1, _⟩ := chB_true e6
  rw [HL.out] at hch1
  go_quiet (first | (go_at_call 13; exact Calls.quiet_of_same (l00In_is e5)) | (go_at_call 67; exact Calls.quiet_of (chq_is Ai ni ci lo hi ch hch HL.out (hr1.drewN _) hh1 e6)) | (go_at_call 68; exact Calls.quiet_of_same (l03Last_any Ai ni ci lo hi ch hch hch1 _ HL.out (hr1.drewN _))))
  go_wp2_with fail
  go_ret
  exact ⟨ret_bool (by simp), HB.out.trans (Joins.below_draws _ _ _)⟩

set_option maxRecDepth 100000 in
set_option maxHeartbeats 2000000 in
theorem implValidCrane_any (lo hi : Nat) (c : Crn) (Ai : Option Addr) (ni ci : Nat) (hni : c.ch.length = ni) (hch : ni ≤ 1048576) (hnm : c.nm.size ≤ maxLen) (w : World) (hhi : hi ≤ w.heap.size) (hr : Rd w lo hi 2 Ai ni (rChartStep c.ch)) :
    Calls Tryz.prog 56 #[.agg #[.string c.nm, .int .i64 c.x, .int .i64 c.y, .int .i64 c.h, .int .i64 c.j, .int .i64 c.b, .slice Ai ni ci]] w fun e w' => e = .returned (.bool (crB c)) ∧ Below w.heap.size w w' := by
  obtain ⟨nm, x, y, h, j, b, ch⟩ := c
  dsimp only at hni hch hnm hr ⊢
  have HN := hide hnm
  have HL := hide hni
  clear hnm hni
  unfold crB
  dsimp only
  cases e1 : nmB nm
  case false =>
    go_enter Tryz.func56, Tryz.ntmps56
    go_wp2_with fail
    obtain ⟨W0, hW0⟩ : ∃ W0 : World, W0 = (w.alloc (.cells #[.string nm, .int .i64 x, .int .i64 y, .int .i64 h, .int .i64 j, .int .i64 b, .slice Ai ni ci] 45)) := ⟨_, rfl⟩
    rw [← hW0]
    have bS : Box W0 (w.heap.size) [.string nm, .int .i64 x, .int .i64 y, .int .i64 h, .int .i64 j, .int .i64 b, .slice Ai ni ci] := by rw [hW0]; exact box_at _ _ _ _ (by simp)
    have hB : Below w.heap.size w W0 := by rw [hW0]; exact (by repeat (first | exact Below.refl _ _ | refine Below.drew ?_ | refine Below.alloc ?_ (by first | (simp; done) | (simp; omega)) _))
    have hs0 : w.heap.size + 1 ≤ W0.heap.size := by rw [hW0]; first | (simp; done) | (simp; omega)
    clear hW0
    replace hr := hr.below hB (by omega)
    (with_reducible refine (nmi_is HN.out e1).mono ?_)
    rintro e w' ⟨rfl, rfl⟩
    have nbS : w.heap.size < W0.heap.size := by omega
    have lbS_0 := bS 0 _ rfl
    have lbS_1 := bS 1 _ rfl
    have lbS_2 := bS 2 _ rfl
    have lbS_3 := bS 3 _ rfl
    have lbS_4 := bS 4 _ rfl
    have lbS_5 := bS 5 _ rfl
    have lbS_6 := bS 6 _ rfl
    go_wp2_with fail
    go_ret
    exact ⟨ret_bool (by simp), hB⟩
  cases e2 : plB x y
  case false =>
    go_enter Tryz.func56, Tryz.ntmps56
    go_wp2_with fail
    obtain ⟨W0, hW0⟩ : ∃ W0 : World, W0 = (w.alloc (.cells #[.string nm, .int .i64 x, .int .i64 y, .int .i64 h, .int .i64 j, .int .i64 b, .slice Ai ni ci] 45)) := ⟨_, rfl⟩
    rw [← hW0]
    have bS : Box W0 (w.heap.size) [.string nm, .int .i64 x, .int .i64 y, .int .i64 h, .int .i64 j, .int .i64 b, .slice Ai ni ci] := by rw [hW0]; exact box_at _ _ _ _ (by simp)
    have hB : Below w.heap.size w W0 := by rw [hW0]; exact (by repeat (first | exact Below.refl _ _ | refine Below.drew ?_ | refine Below.alloc ?_ (by first | (simp; done) | (simp; omega)) _))
    have hs0 : w.heap.size + 1 ≤ W0.heap.size := by rw [hW0]; first | (simp; done) | (simp; omega)
    clear hW0
    replace hr := hr.below hB (by omega)
    (with_reducible refine (nmi_is HN.out e1).mono ?_)
    rintro e w' ⟨rfl, rfl⟩
    have nbS : w.heap.size < W0.heap.size := by omega
    have lbS_0 := bS 0 _ rfl
    have lbS_1 := bS 1 _ rfl
    have lbS_2 := bS 2 _ rfl
    have lbS_3 := bS 3 _ rfl
    have lbS_4 := bS 4 _ rfl
    have lbS_5 := bS 5 _ rfl
    have lbS_6 := bS 6 _ rfl
    go_wp2_with fail
    clear nbS lbS_0 lbS_1 lbS_2 lbS_3 lbS_4 lbS_5 lbS_6
    refine (implValidPlace_is e2).mono ?_
    rintro e w1 ⟨rfl, hb⟩
    have hbb : Below W0.heap.size W0 w1 := Below.trans (by repeat (first | exact Below.refl _ _ | refine Below.drew ?_ | refine Below.alloc ?_ (by first | (simp; done) | (simp; omega)) _)) (Below.mono hb (by simp))
    clear hb
    have hs1 := hbb.size
    replace hr := hr.below hbb (by omega)
    replace bS := bS.below hbb (by omega)
    replace hB := hB.trans (hbb.mono (by omega))
    clear hbb
    have nbS : w.heap.size < w1.heap.size := by omega
    have lbS_0 := bS 0 _ rfl
    have lbS_1 := bS 1 _ rfl
    have lbS_2 := bS 2 _ rfl
    have lbS_3 := bS 3 _ rfl
    have lbS_4 := bS 4 _ rfl
    have lbS_5 := bS 5 _ rfl
    have lbS_6 := bS 6 _ rfl
    go_wp2_with fail
    go_ret
    exact ⟨ret_bool (by simp), hB⟩
  cases e3 : inR h 1 2000
  case false =>
    go_enter Tryz.func56, Tryz.ntmps56
    go_wp2_with fail
    obtain ⟨W0, hW0⟩ : ∃ W0 : World, W0 = (w.alloc (.cells #[.string nm, .int .i64 x, .int .i64 y, .int .i64 h, .int .i64 j, .int .i64 b, .slice Ai ni ci] 45)) := ⟨_, rfl⟩
    rw [← hW0]
    have bS : Box W0 (w.heap.size) [.string nm, .int .i64 x, .int .i64 y, .int .i64 h, .int .i64 j, .int .i64 b, .slice Ai ni ci] := by rw [hW0]; exact box_at _ _ _ _ (by simp)
    have hB : Below w.heap.size w W0 := by rw [hW0]; exact (by repeat (first | exact Below.refl _ _ | refine Below.drew ?_ | refine Below.alloc ?_ (by first | (simp; done) | (simp; omega)) _))
    have hs0 : w.heap.size + 1 ≤ W0.heap.size := by rw [hW0]; first | (simp; done) | (simp; omega)
    clear hW0
    replace hr := hr.below hB (by omega)
    (with_reducible refine (nmi_is HN.out e1).mono ?_)
    rintro e w' ⟨rfl, rfl⟩
    have nbS : w.heap.size < W0.heap.size := by omega
    have lbS_0 := bS 0 _ rfl
    have lbS_1 := bS 1 _ rfl
    have lbS_2 := bS 2 _ rfl
    have lbS_3 := bS 3 _ rfl
    have lbS_4 := bS 4 _ rfl
    have lbS_5 := bS 5 _ rfl
    have lbS_6 := bS 6 _ rfl
    go_wp2_with fail
    clear nbS lbS_0 lbS_1 lbS_2 lbS_3 lbS_4 lbS_5 lbS_6
    refine (implValidPlace_is e2).mono ?_
    rintro e w1 ⟨rfl, hb⟩
    have hbb : Below W0.heap.size W0 w1 := Below.trans (by repeat (first | exact Below.refl _ _ | refine Below.drew ?_ | refine Below.alloc ?_ (by first | (simp; done) | (simp; omega)) _)) (Below.mono hb (by simp))
    clear hb
    have hs1 := hbb.size
    replace hr := hr.below hbb (by omega)
    replace bS := bS.below hbb (by omega)
    replace hB := hB.trans (hbb.mono (by omega))
    clear hbb
    have nbS : w.heap.size < w1.heap.size := by omega
    have lbS_0 := bS 0 _ rfl
    have lbS_1 := bS 1 _ rfl
    have lbS_2 := bS 2 _ rfl
    have lbS_3 := bS 3 _ rfl
    have lbS_4 := bS 4 _ rfl
    have lbS_5 := bS 5 _ rfl
    have lbS_6 := bS 6 _ rfl
    go_wp2_with (first | (go_at_call 29; (with_reducible refine (within_is e3).mono ?_); rintro e w' ⟨rfl, hw⟩; obtain rfl := hw.symm))
    go_ret
    exact ⟨ret_bool (by simp), hB⟩
  cases e4 : inR j 1 1000
  case false =>
    go_enter Tryz.func56, Tryz.ntmps56
    go_wp2_with fail
    obtain ⟨W0, hW0⟩ : ∃ W0 : World, W0 = (w.alloc (.cells #[.string nm, .int .i64 x, .int .i64 y, .int .i64 h, .int .i64 j, .int .i64 b, .slice Ai ni ci] 45)) := ⟨_, rfl⟩
    rw [← hW0]
    have bS : Box W0 (w.heap.size) [.string nm, .int .i64 x, .int .i64 y, .int .i64 h, .int .i64 j, .int .i64 b, .slice Ai ni ci] := by rw [hW0]; exact box_at _ _ _ _ (by simp)
    have hB : Below w.heap.size w W0 := by rw [hW0]; exact (by repeat (first | exact Below.refl _ _ | refine Below.drew ?_ | refine Below.alloc ?_ (by first | (simp; done) | (simp; omega)) _))
    have hs0 : w.heap.size + 1 ≤ W0.heap.size := by rw [hW0]; first | (simp; done) | (simp; omega)
    clear hW0
    replace hr := hr.below hB (by omega)
    (with_reducible refine (nmi_is HN.out e1).mono ?_)
    rintro e w' ⟨rfl, rfl⟩
    have nbS : w.heap.size < W0.heap.size := by omega
    have lbS_0 := bS 0 _ rfl
    have lbS_1 := bS 1 _ rfl
    have lbS_2 := bS 2 _ rfl
    have lbS_3 := bS 3 _ rfl
    have lbS_4 := bS 4 _ rfl
    have lbS_5 := bS 5 _ rfl
    have lbS_6 := bS 6 _ rfl
    go_wp2_with fail
    clear nbS lbS_0 lbS_1 lbS_2 lbS_3 lbS_4 lbS_5 lbS_6
    refine (implValidPlace_is e2).mono ?_
    rintro e w1 ⟨rfl, hb⟩
    have hbb : Below W0.heap.size W0 w1 := Below.trans (by repeat (first | exact Below.refl _ _ | refine Below.drew ?_ | refine Below.alloc ?_ (by first | (simp; done) | (simp; omega)) _)) (Below.mono hb (by simp))
    clear hb
    have hs1 := hbb.size
    replace hr := hr.below hbb (by omega)
    replace bS := bS.below hbb (by omega)
    replace hB := hB.trans (hbb.mono (by omega))
    clear hbb
    have nbS : w.heap.size < w1.heap.size := by omega
    have lbS_0 := bS 0 _ rfl
    have lbS_1 := bS 1 _ rfl
    have lbS_2 := bS 2 _ rfl
    have lbS_3 := bS 3 _ rfl
    have lbS_4 := bS 4 _ rfl
    have lbS_5 := bS 5 _ rfl
    have lbS_6 := bS 6 _ rfl
    go_wp2_with (first | (go_at_call 29; (with_reducible refine (within_is e3).mono ?_); rintro e w' ⟨rfl, hw⟩; obtain rfl := hw.symm) | (go_at_call 29; (with_reducible refine (within_is e4).mono ?_); rintro e w' ⟨rfl, hw⟩; obtain rfl := hw.symm))
    go_ret
    exact ⟨ret_bool (by simp), hB⟩
  cases e5 : inR b 0 j
  case false =>
    go_enter Tryz.func56, Tryz.ntmps56
    go_wp2_with fail
    obtain ⟨W0, hW0⟩ : ∃ W0 : World, W0 = (w.alloc (.cells #[.string nm, .int .i64 x, .int .i64 y, .int .i64 h, .int .i64 j, .int .i64 b, .slice Ai ni ci] 45)) := ⟨_, rfl⟩
    rw [← hW0]
    have bS : Box W0 (w.heap.size) [.string nm, .int .i64 x, .int .i64 y, .int .i64 h, .int .i64 j, .int .i64 b, .slice Ai ni ci] := by rw [hW0]; exact box_at _ _ _ _ (by simp)
    have hB : Below w.heap.size w W0 := by rw [hW0]; exact (by repeat (first | exact Below.refl _ _ | refine Below.drew ?_ | refine Below.alloc ?_ (by first | (simp; done) | (simp; omega)) _))
    have hs0 : w.heap.size + 1 ≤ W0.heap.size := by rw [hW0]; first | (simp; done) | (simp; omega)
    clear hW0
    replace hr := hr.below hB (by omega)
    (with_reducible refine (nmi_is HN.out e1).mono ?_)
    rintro e w' ⟨rfl, rfl⟩
    have nbS : w.heap.size < W0.heap.size := by omega
    have lbS_0 := bS 0 _ rfl
    have lbS_1 := bS 1 _ rfl
    have lbS_2 := bS 2 _ rfl
    have lbS_3 := bS 3 _ rfl
    have lbS_4 := bS 4 _ rfl
    have lbS_5 := bS 5 _ rfl
    have lbS_6 := bS 6 _ rfl
    go_wp2_with fail
    clear nbS lbS_0 lbS_1 lbS_2 lbS_3 lbS_4 lbS_5 lbS_6
    refine (implValidPlace_is e2).mono ?_
    rintro e w1 ⟨rfl, hb⟩
    have hbb : Below W0.heap.size W0 w1 := Below.trans (by repeat (first | exact Below.refl _ _ | refine Below.drew ?_ | refine Below.alloc ?_ (by first | (simp; done) | (simp; omega)) _)) (Below.mono hb (by simp))
    clear hb
    have hs1 := hbb.size
    replace hr := hr.below hbb (by omega)
    replace bS := bS.below hbb (by omega)
    replace hB := hB.trans (hbb.mono (by omega))
    clear hbb
    have nbS : w.heap.size < w1.heap.size := by omega
    have lbS_0 := bS 0 _ rfl
    have lbS_1 := bS 1 _ rfl
    have lbS_2 := bS 2 _ rfl
    have lbS_3 := bS 3 _ rfl
    have lbS_4 := bS 4 _ rfl
    have lbS_5 := bS 5 _ rfl
    have lbS_6 := bS 6 _ rfl
    go_wp2_with (first | (go_at_call 29; (with_reducible refine (within_is e3).mono ?_); rintro e w' ⟨rfl, hw⟩; obtain rfl := hw.symm) | (go_at_call 29; (with_reducible refine (within_is e4).mono ?_); rintro e w' ⟨rfl, hw⟩; obtain rfl := hw.symm) | (go_at_call 29; (with_reducible refine (within_is e5).mono ?_); rintro e w' ⟨rfl, hw⟩; obtain rfl := hw.symm))
    go_ret
    exact ⟨ret_bool (by simp), hB⟩
  cases e6 : chB ch
  case false =>
    go_enter Tryz.func56, Tryz.ntmps56
    go_wp2_with fail
    obtain ⟨W0, hW0⟩ : ∃ W0 : World, W0 = (w.alloc (.cells #[.string nm, .int .i64 x, .int .i64 y, .int .i64 h, .int .i64 j, .int .i64 b, .slice Ai ni ci] 45)) := ⟨_, rfl⟩
    rw [← hW0]
    have bS : Box W0 (w.heap.size) [.string nm, .int .i64 x, .int .i64 y, .int .i64 h, .int .i64 j, .int .i64 b, .slice Ai ni ci] := by rw [hW0]; exact box_at _ _ _ _ (by simp)
    have hB : Below w.heap.size w W0 := by rw [hW0]; exact (by repeat (first | exact Below.refl _ _ | refine Below.drew ?_ | refine Below.alloc ?_ (by first | (simp; done) | (simp; omega)) _))
    have hs0 : w.heap.size + 1 ≤ W0.heap.size := by rw [hW0]; first | (simp; done) | (simp; omega)
    clear hW0
    replace hr := hr.below hB (by omega)
    (with_reducible refine (nmi_is HN.out e1).mono ?_)
    rintro e w' ⟨rfl, rfl⟩
    have nbS : w.heap.size < W0.heap.size := by omega
    have lbS_0 := bS 0 _ rfl
    have lbS_1 := bS 1 _ rfl
    have lbS_2 := bS 2 _ rfl
    have lbS_3 := bS 3 _ rfl
    have lbS_4 := bS 4 _ rfl
    have lbS_5 := bS 5 _ rfl
    have lbS_6 := bS 6 _ rfl
    go_wp2_with fail
    clear nbS lbS_0 lbS_1 lbS_2 lbS_3 lbS_4 lbS_5 lbS_6
    refine (implValidPlace_is e2).mono ?_
    rintro e w1 ⟨rfl, hb⟩
    have hbb : Below W0.heap.size W0 w1 := Below.trans (by repeat (first | exact Below.refl _ _ | refine Below.drew ?_ | refine Below.alloc ?_ (by first | (simp; done) | (simp; omega)) _)) (Below.mono hb (by simp))
    clear hb
    have hs1 := hbb.size
    replace hr := hr.below hbb (by omega)
    replace bS := bS.below hbb (by omega)
    replace hB := hB.trans (hbb.mono (by omega))
    clear hbb
    have nbS : w.heap.size < w1.heap.size := by omega
    have lbS_0 := bS 0 _ rfl
    have lbS_1 := bS 1 _ rfl
    have lbS_2 := bS 2 _ rfl
    have lbS_3 := bS 3 _ rfl
    have lbS_4 := bS 4 _ rfl
    have lbS_5 := bS 5 _ rfl
    have lbS_6 := bS 6 _ rfl
    go_wp2_with (first | (go_at_call 29; (with_reducible refine (within_is e3).mono ?_); rintro e w' ⟨rfl, hw⟩; obtain rfl := hw.symm) | (go_at_call 29; (with_reducible refine (within_is e4).mono ?_); rintro e w' ⟨rfl, hw⟩; obtain rfl := hw.symm) | (go_at_call 29; (with_reducible refine (within_is e5).mono ?_); rintro e w' ⟨rfl, hw⟩; obtain rfl := hw.symm))
    refine wp_region_any (by kernel_rfl) ?_
    try (change wpAny _ _ _ _ _ _ _ (World.drew _))
    refine wpAny_take (i := 0) (v := ?_) rfl (by kernel_rfl) (by kernel_rfl) (by kernel_rfl) (fun _ _ _ h => h) (Or.inl ⟨by rfl, ?_⟩) ?_
    rotate_left
    · (intro w; go_simp; try (with_reducible rfl))
    simp only [Act.put, List.getElem_toArray, List.getElem_cons_zero, List.setIfInBounds_toArray, List.set_cons_succ, List.set_cons_zero]
    refine wpAny_ready (rs := [1]) (by kernel_rfl) (by simp) ?_
    refine AllReady.cons rfl (fun K hK => ?_) AllReady.nil
    go_simp
    refine hK _ _ ?_
    clear hK K
    refine wpAny_ready (rs := [2]) (by kernel_rfl) (by simp) ?_
    refine AllReady.cons rfl (fun K hK => ?_) AllReady.nil
    go_simp
    (with_reducible refine (chi_is Ai ni ci lo hi ch hch HL.out hr.drew (le_drew (by omega)) e6).mono ?_); rintro e w2 ⟨rfl, hb2⟩
    refine hK _ _ ?_
    clear hK K
    try simp only [Act.put, List.getElem_toArray, List.getElem_cons_succ, List.getElem_cons_zero, List.setIfInBounds_toArray, List.set_cons_succ, List.set_cons_zero]
    refine wpAny_take (i := 3) (v := ?_) rfl (by kernel_rfl) (by kernel_rfl) (by kernel_rfl) (fun _ _ _ h => h) (Or.inl ⟨by rfl, ?_⟩) ?_
    rotate_left
    · (intro w; go_simp; try (with_reducible rfl))
    simp only [Act.put, List.getElem_toArray, List.getElem_cons_succ, List.getElem_cons_zero, List.setIfInBounds_toArray, List.set_cons_succ, List.set_cons_zero]
    refine wpAny_take (i := 4) (v := undef) rfl (by kernel_rfl) (by kernel_rfl) (by kernel_rfl) (fun _ _ _ h => h) (Or.inr ⟨by rfl, rfl⟩) ?_
    simp only [Act.put, List.getElem_toArray, List.getElem_cons_succ, List.getElem_cons_zero, List.setIfInBounds_toArray, List.set_cons_succ, List.set_cons_zero]
    refine wpAny_take (i := 5) (v := undef) rfl (by kernel_rfl) (by kernel_rfl) (by kernel_rfl) (fun _ _ _ h => h) (Or.inr ⟨by rfl, rfl⟩) ?_
    simp only [Act.put, List.getElem_toArray, List.getElem_cons_succ, List.getElem_cons_zero, List.setIfInBounds_toArray, List.set_cons_succ, List.set_cons_zero]
    refine wpAny_take (i := 6) (v := undef) rfl (by kernel_rfl) (by kernel_rfl) (by kernel_rfl) (fun _ _ _ h => h) (Or.inr ⟨by rfl, rfl⟩) ?_
    simp only [Act.put, List.getElem_toArray, List.getElem_cons_succ, List.getElem_cons_zero, List.setIfInBounds_toArray, List.set_cons_succ, List.set_cons_zero]
    refine wpAny_take (i := 7) (v := undef) rfl (by kernel_rfl) (by kernel_rfl) (by kernel_rfl) (fun _ _ _ h => h) (Or.inr ⟨by rfl, rfl⟩) ?_
    simp only [Act.put, List.getElem_toArray, List.getElem_cons_succ, List.getElem_cons_zero, List.setIfInBounds_toArray, List.set_cons_succ, List.set_cons_zero]
    refine wpAny_take (i := 8) (v := undef) rfl (by kernel_rfl) (by kernel_rfl) (by kernel_rfl) (fun _ _ _ h => h) (Or.inr ⟨by rfl, rfl⟩) ?_
    simp only [Act.put, List.getElem_toArray, List.getElem_cons_succ, List.getElem_cons_zero, List.setIfInBounds_toArray, List.set_cons_succ, List.set_cons_zero]
    refine wpAny_take (i := 9) (v := undef) rfl (by kernel_rfl) (by kernel_rfl) (by kernel_rfl) (fun _ _ _ h => h) (Or.inr ⟨by rfl, rfl⟩) ?_
    simp only [Act.put, List.getElem_toArray, List.getElem_cons_succ, List.getElem_cons_zero, List.setIfInBounds_toArray, List.set_cons_succ, List.set_cons_zero]
    refine wpAny_take (i := 10) (v := undef) rfl (by kernel_rfl) (by kernel_rfl) (by kernel_rfl) (fun _ _ _ h => h) (Or.inr ⟨by rfl, rfl⟩) ?_
    simp only [Act.put, List.getElem_toArray, List.getElem_cons_succ, List.getElem_cons_zero, List.setIfInBounds_toArray, List.set_cons_succ, List.set_cons_zero]
    refine wpAny_take (i := 11) (v := undef) rfl (by kernel_rfl) (by kernel_rfl) (by kernel_rfl) (fun _ _ _ h => h) (Or.inr ⟨by rfl, rfl⟩) ?_
    simp only [Act.put, List.getElem_toArray, List.getElem_cons_succ, List.getElem_cons_zero, List.setIfInBounds_toArray, List.set_cons_succ, List.set_cons_zero]
    refine wpAny_take (i := 12) (v := undef) rfl (by kernel_rfl) (by kernel_rfl) (by kernel_rfl) (fun _ _ _ h => h) (Or.inr ⟨by rfl, rfl⟩) ?_
    simp only [Act.put, List.getElem_toArray, List.getElem_cons_succ, List.getElem_cons_zero, List.setIfInBounds_toArray, List.set_cons_succ, List.set_cons_zero]
    refine wpAny_take (i := 13) (v := undef) rfl (by kernel_rfl) (by kernel_rfl) (by kernel_rfl) (fun _ _ _ h => h) (Or.inr ⟨by rfl, rfl⟩) ?_
    simp only [Act.put, List.getElem_toArray, List.getElem_cons_succ, List.getElem_cons_zero, List.setIfInBounds_toArray, List.set_cons_succ, List.set_cons_zero]
    refine wpAny_take (i := 14) (v := undef) rfl (by kernel_rfl) (by kernel_rfl) (by kernel_rfl) (fun _ _ _ h => h) (Or.inr ⟨by rfl, rfl⟩) ?_
    simp only [Act.put, List.getElem_toArray, List.getElem_cons_succ, List.getElem_cons_zero, List.setIfInBounds_toArray, List.set_cons_succ, List.set_cons_zero]
    refine wpAny_take (i := 15) (v := undef) rfl (by kernel_rfl) (by kernel_rfl) (by kernel_rfl) (fun _ _ _ h => h) (Or.inr ⟨by rfl, rfl⟩) ?_
    simp only [Act.put, List.getElem_toArray, List.getElem_cons_succ, List.getElem_cons_zero, List.setIfInBounds_toArray, List.set_cons_succ, List.set_cons_zero]
    refine wpAny_take (i := 16) (v := ?_) rfl (by kernel_rfl) (by kernel_rfl) (by kernel_rfl) (fun _ _ _ h => h) (Or.inl ⟨by rfl, ?_⟩) ?_
    rotate_left
    · (intro w; go_simp; try (with_reducible rfl))
    simp only [Act.put, List.getElem_toArray, List.getElem_cons_succ, List.getElem_cons_zero, List.setIfInBounds_toArray, List.set_cons_succ, List.set_cons_zero]
    refine wpAny_take (i := 17) (v := ?_) rfl (by kernel_rfl) (by kernel_rfl) (by kernel_rfl) (fun _ _ _ h => h) (Or.inl ⟨by rfl, ?_⟩) ?_
    rotate_left
    · (intro w; go_simp; try (with_reducible rfl))
    simp only [Act.put, List.getElem_toArray, List.getElem_cons_succ, List.getElem_cons_zero, List.setIfInBounds_toArray, List.set_cons_succ, List.set_cons_zero]
    refine wpAny_done (by kernel_rfl) ?_ _
    have hbz : Below w.heap.size w w2 := hB.trans ((Below.trans (Below.refl _ _).drew hb2).mono (show w.heap.size ≤ w1.heap.size by omega))
    go_wp2_with fail
    go_ret
    exact ⟨ret_bool (by simp), hbz⟩
  cases e7 : decide (lastR ch ≤ j)
  case false =>
    go_enter Tryz.func56, Tryz.ntmps56
    go_wp2_with fail
    obtain ⟨W0, hW0⟩ : ∃ W0 : World, W0 = (w.alloc (.cells #[.string nm, .int .i64 x, .int .i64 y, .int .i64 h, .int .i64 j, .int .i64 b, .slice Ai ni ci] 45)) := ⟨_, rfl⟩
    rw [← hW0]
    have bS : Box W0 (w.heap.size) [.string nm, .int .i64 x, .int .i64 y, .int .i64 h, .int .i64 j, .int .i64 b, .slice Ai ni ci] := by rw [hW0]; exact box_at _ _ _ _ (by simp)
    have hB : Below w.heap.size w W0 := by rw [hW0]; exact (by repeat (first | exact Below.refl _ _ | refine Below.drew ?_ | refine Below.alloc ?_ (by first | (simp; done) | (simp; omega)) _))
    have hs0 : w.heap.size + 1 ≤ W0.heap.size := by rw [hW0]; first | (simp; done) | (simp; omega)
    clear hW0
    replace hr := hr.below hB (by omega)
    (with_reducible refine (nmi_is HN.out e1).mono ?_)
    rintro e w' ⟨rfl, rfl⟩
    have nbS : w.heap.size < W0.heap.size := by omega
    have lbS_0 := bS 0 _ rfl
    have lbS_1 := bS 1 _ rfl
    have lbS_2 := bS 2 _ rfl
    have lbS_3 := bS 3 _ rfl
    have lbS_4 := bS 4 _ rfl
    have lbS_5 := bS 5 _ rfl
    have lbS_6 := bS 6 _ rfl
    go_wp2_with fail
    clear nbS lbS_0 lbS_1 lbS_2 lbS_3 lbS_4 lbS_5 lbS_6
    refine (implValidPlace_is e2).mono ?_
    rintro e w1 ⟨rfl, hb⟩
    have hbb : Below W0.heap.size W0 w1 := Below.trans (by repeat (first | exact Below.refl _ _ | refine Below.drew ?_ | refine Below.alloc ?_ (by first | (simp; done) | (simp; omega)) _)) (Below.mono hb (by simp))
    clear hb
    have hs1 := hbb.size
    replace hr := hr.below hbb (by omega)
    replace bS := bS.below hbb (by omega)
    replace hB := hB.trans (hbb.mono (by omega))
    clear hbb
    have nbS : w.heap.size < w1.heap.size := by omega
    have lbS_0 := bS 0 _ rfl
    have lbS_1 := bS 1 _ rfl
    have lbS_2 := bS 2 _ rfl
    have lbS_3 := bS 3 _ rfl
    have lbS_4 := bS 4 _ rfl
    have lbS_5 := bS 5 _ rfl
    have lbS_6 := bS 6 _ rfl
    go_wp2_with (first | (go_at_call 29; (with_reducible refine (within_is e3).mono ?_); rintro e w' ⟨rfl, hw⟩; obtain rfl := hw.symm) | (go_at_call 29; (with_reducible refine (within_is e4).mono ?_); rintro e w' ⟨rfl, hw⟩; obtain rfl := hw.symm) | (go_at_call 29; (with_reducible refine (within_is e5).mono ?_); rintro e w' ⟨rfl, hw⟩; obtain rfl := hw.symm))
    obtain ⟨_, hch1, _⟩ := chB_true e6
    rw [HL.out] at hch1
    obtain ⟨m, rfl⟩ : ∃ m, ni = m + 1 := ⟨ni - 1, by omega⟩
    obtain ⟨bb, oo, hA, hb1', hb2', hc⟩ := hr.2 (by omega)
    have hlt : m < ch.length := by have := HL.out; omega
    have cl : w1.cell? ⟨bb, oo + m * 2, none⟩ = some (.int .i64 (lastR ch)) := by rw [lastR_at HL.out hlt]; exact hc _ _ (rChartStep_at ch m hlt).1
    have hbb : bb < w1.heap.size := by omega
    have y0 : (0 : Int) ≤ (m : Int) := by omega
    have y1 : (m : Int) < ((m + 1 : Nat) : Int) := by omega
    have y4 : (m : Int) < (m : Int) + 1 := by omega
    have y2 : IntKind.i64.wrap ((m : Int) + 1 - 1) = (m : Int) := by rw [Int.add_sub_cancel]; exact IntWalk.i64_in _ ⟨by omega, by omega⟩
    have y3 : IntKind.i64.wrap (m : Int) = (m : Int) := IntWalk.i64_in _ ⟨by omega, by omega⟩
    have HR := hide hr
    clear hc hlt hr
    subst hA
    have HS : Hid ((World.drew w1).cell? ⟨w.heap.size, 4, none⟩ = some (.int .i64 j) ∧ (World.drew w1).cell? ⟨w.heap.size, 6, none⟩ = some (.slice (some ⟨bb, oo, none⟩) (m + 1) ci) ∧ (World.drew w1).cell? ⟨bb, oo + m * 2, none⟩ = some (.int .i64 (lastR ch))) := hide ⟨lbS_4, lbS_6, cl⟩
    clear cl
    clear nbS lbS_0 lbS_1 lbS_2 lbS_3 lbS_4 lbS_5 lbS_6
    have hsb : w.heap.size < w1.heap.size := by omega
    go_region_held3 (fun W => W.cell? ⟨w.heap.size, 4, none⟩ = some (.int .i64 j) ∧ W.cell? ⟨w.heap.size, 6, none⟩ = some (.slice (some ⟨bb, oo, none⟩) (m + 1) ci) ∧ W.cell? ⟨bb, oo + m * 2, none⟩ = some (.int .i64 (lastR ch))) (with_reducible exact HS.out) (first | (go_at_call 77; (with_reducible refine (chi_is (some ⟨bb, oo, none⟩) (m + 1) ci lo hi ch hch HL.out HR.out.drew (le_drew (by omega)) e6).mono ?_); rintro e w2 ⟨rfl, hb2⟩; have HS : Hid (w2.cell? ⟨w.heap.size, 4, none⟩ = some (.int .i64 j) ∧ w2.cell? ⟨w.heap.size, 6, none⟩ = some (.slice (some ⟨bb, oo, none⟩) (m + 1) ci) ∧ w2.cell? ⟨bb, oo + m * 2, none⟩ = some (.int .i64 (lastR ch))) := hide ⟨(hb2.cell (p := ⟨w.heap.size, 4, none⟩) hsb).trans HS.out.1, (hb2.cell (p := ⟨w.heap.size, 6, none⟩) hsb).trans HS.out.2.1, (hb2.cell (p := ⟨bb, oo + m * 2, none⟩) hbb).trans HS.out.2.2⟩))
    have hbz : Below w.heap.size w w2 := hB.trans ((Below.trans (Below.refl _ _).drew hb2).mono (show w.heap.size ≤ w1.heap.size by omega))
    go_wp2_with fail
    go_ret
    exact ⟨ret_bool (by simp), hbz⟩
  go_enter Tryz.func56, Tryz.ntmps56
  go_wp2_with fail
  obtain ⟨W0, hW0⟩ : ∃ W0 : World, W0 = (w.alloc (.cells #[.string nm, .int .i64 x, .int .i64 y, .int .i64 h, .int .i64 j, .int .i64 b, .slice Ai ni ci] 45)) := ⟨_, rfl⟩
  rw [← hW0]
  have bS : Box W0 (w.heap.size) [.string nm, .int .i64 x, .int .i64 y, .int .i64 h, .int .i64 j, .int .i64 b, .slice Ai ni ci] := by rw [hW0]; exact box_at _ _ _ _ (by simp)
  have hB : Below w.heap.size w W0 := by rw [hW0]; exact (by repeat (first | exact Below.refl _ _ | refine Below.drew ?_ | refine Below.alloc ?_ (by first | (simp; done) | (simp; omega)) _))
  have hs0 : w.heap.size + 1 ≤ W0.heap.size := by rw [hW0]; first | (simp; done) | (simp; omega)
  clear hW0
  replace hr := hr.below hB (by omega)
  (with_reducible refine (nmi_is HN.out e1).mono ?_)
  rintro e w' ⟨rfl, rfl⟩
  have nbS : w.heap.size < W0.heap.size := by omega
  have lbS_0 := bS 0 _ rfl
  have lbS_1 := bS 1 _ rfl
  have lbS_2 := bS 2 _ rfl
  have lbS_3 := bS 3 _ rfl
  have lbS_4 := bS 4 _ rfl
  have lbS_5 := bS 5 _ rfl
  have lbS_6 := bS 6 _ rfl
  go_wp2_with fail
  clear nbS lbS_0 lbS_1 lbS_2 lbS_3 lbS_4 lbS_5 lbS_6
  refine (implValidPlace_is e2).mono ?_
  rintro e w1 ⟨rfl, hb⟩
  have hbb : Below W0.heap.size W0 w1 := Below.trans (by repeat (first | exact Below.refl _ _ | refine Below.drew ?_ | refine Below.alloc ?_ (by first | (simp; done) | (simp; omega)) _)) (Below.mono hb (by simp))
  clear hb
  have hs1 := hbb.size
  replace hr := hr.below hbb (by omega)
  replace bS := bS.below hbb (by omega)
  replace hB := hB.trans (hbb.mono (by omega))
  clear hbb
  have nbS : w.heap.size < w1.heap.size := by omega
  have lbS_0 := bS 0 _ rfl
  have lbS_1 := bS 1 _ rfl
  have lbS_2 := bS 2 _ rfl
  have lbS_3 := bS 3 _ rfl
  have lbS_4 := bS 4 _ rfl
  have lbS_5 := bS 5 _ rfl
  have lbS_6 := bS 6 _ rfl
  go_wp2_with (first | (go_at_call 29; (with_reducible refine (within_is e3).mono ?_); rintro e w' ⟨rfl, hw⟩; obtain rfl := hw.symm) | (go_at_call 29; (with_reducible refine (within_is e4).mono ?_); rintro e w' ⟨rfl, hw⟩; obtain rfl := hw.symm) | (go_at_call 29; (with_reducible refine (within_is e5).mono ?_); rintro e w' ⟨rfl, hw⟩; obtain rfl := hw.symm))
  obtain ⟨_, hch1, _⟩ := chB_true e6
  rw [HL.out] at hch1
  obtain ⟨m, rfl⟩ : ∃ m, ni = m + 1 := ⟨ni - 1, by omega⟩
  obtain ⟨bb, oo, hA, hb1', hb2', hc⟩ := hr.2 (by omega)
  have hlt : m < ch.length := by have := HL.out; omega
  have cl : w1.cell? ⟨bb, oo + m * 2, none⟩ = some (.int .i64 (lastR ch)) := by rw [lastR_at HL.out hlt]; exact hc _ _ (rChartStep_at ch m hlt).1
  have hbb : bb < w1.heap.size := by omega
  have y0 : (0 : Int) ≤ (m : Int) := by omega
  have y1 : (m : Int) < ((m + 1 : Nat) : Int) := by omega
  have y4 : (m : Int) < (m : Int) + 1 := by omega
  have y2 : IntKind.i64.wrap ((m : Int) + 1 - 1) = (m : Int) := by rw [Int.add_sub_cancel]; exact IntWalk.i64_in _ ⟨by omega, by omega⟩
  have y3 : IntKind.i64.wrap (m : Int) = (m : Int) := IntWalk.i64_in _ ⟨by omega, by omega⟩
  have HR := hide hr
  clear hc hlt hr
  subst hA
  have HS : Hid ((World.drew w1).cell? ⟨w.heap.size, 4, none⟩ = some (.int .i64 j) ∧ (World.drew w1).cell? ⟨w.heap.size, 6, none⟩ = some (.slice (some ⟨bb, oo, none⟩) (m + 1) ci) ∧ (World.drew w1).cell? ⟨bb, oo + m * 2, none⟩ = some (.int .i64 (lastR ch))) := hide ⟨lbS_4, lbS_6, cl⟩
  clear cl
  clear nbS lbS_0 lbS_1 lbS_2 lbS_3 lbS_4 lbS_5 lbS_6
  have hsb : w.heap.size < w1.heap.size := by omega
  go_region_held3 (fun W => W.cell? ⟨w.heap.size, 4, none⟩ = some (.int .i64 j) ∧ W.cell? ⟨w.heap.size, 6, none⟩ = some (.slice (some ⟨bb, oo, none⟩) (m + 1) ci) ∧ W.cell? ⟨bb, oo + m * 2, none⟩ = some (.int .i64 (lastR ch))) (with_reducible exact HS.out) (first | (go_at_call 77; (with_reducible refine (chi_is (some ⟨bb, oo, none⟩) (m + 1) ci lo hi ch hch HL.out HR.out.drew (le_drew (by omega)) e6).mono ?_); rintro e w2 ⟨rfl, hb2⟩; have HS : Hid (w2.cell? ⟨w.heap.size, 4, none⟩ = some (.int .i64 j) ∧ w2.cell? ⟨w.heap.size, 6, none⟩ = some (.slice (some ⟨bb, oo, none⟩) (m + 1) ci) ∧ w2.cell? ⟨bb, oo + m * 2, none⟩ = some (.int .i64 (lastR ch))) := hide ⟨(hb2.cell (p := ⟨w.heap.size, 4, none⟩) hsb).trans HS.out.1, (hb2.cell (p := ⟨w.heap.size, 6, none⟩) hsb).trans HS.out.2.1, (hb2.cell (p := ⟨bb, oo + m * 2, none⟩) hbb).trans HS.out.2.2⟩))
  have hbz : Below w.heap.size w w2 := hB.trans ((Below.trans (Below.refl _ _).drew hb2).mono (show w.heap.size ≤ w1.heap.size by omega))
  go_wp2_with fail
  go_ret
  exact ⟨ret_bool (by simp), hbz⟩

end Go.Proofs.YtajjophmngabbaaGreatDoor
