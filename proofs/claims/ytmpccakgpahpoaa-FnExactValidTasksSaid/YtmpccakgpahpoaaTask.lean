/-
  VALID TASKS: the program's and the reference's. No condition but those that each theorem names.
-/
import Derived.Test.YtmpccakgpahpoaaNum
import Derived.Test.YtmpccakgpahpoaaFamTask
import Derived.Test.YtmpccakgpahpoaaBox
import Derived.IntWalk
namespace Go.Proofs.Ytmpccakgpahpoaa
open Go.RowKit
set_option linter.unusedVariables false

abbrev Tsk := Int × Int × Int × Int
def tz : Tsk := (0, 0, 0, 0)
/-- Is a task as it should be? -/
def oneT (p : Tsk) : Bool := inR p.1 0 9 && (inR p.2.1 0 5 && (inR p.2.2.1 0 1000000 && inR p.2.2.2 p.2.2.1 1000000))
def tmT (s e : Int) : Bool := decide (0 ≤ s) && (decide (s ≤ e) && decide (e ≤ 1000000))
theorem oneT_tm (p : Tsk) : (inR p.1 0 9 && (inR p.2.1 0 5 && tmT p.2.2.1 p.2.2.2)) = oneT p := by
  rw [Bool.eq_iff_iff]; simp [oneT, tmT, inR]; omega
/-- The order of tasks. -/
def befT (p q : Tsk) : Bool := if (p.2.2.1 == q.2.2.1) then (if (p.2.1 == q.2.1) then decide (p.1 < q.1) else decide (p.2.1 < q.2.1)) else decide (p.2.2.1 < q.2.2.1)
def cmp3 (a b : Int) : Int := if a < b then -1 else if b < a then 1 else 0
def or3 (x y z : Int) : Int := if x = 0 then (if y = 0 then z else y) else x
def cmpT (p q : Tsk) : Int := or3 (cmp3 p.2.2.1 q.2.2.1) (cmp3 p.2.1 q.2.1) (cmp3 p.1 q.1)
theorem cmpT_bd (p q : Tsk) : -1 ≤ cmpT p q ∧ cmpT p q ≤ 1 := by
  unfold cmpT or3 cmp3; repeat (first | omega | split)
theorem cmpT_bef (p q : Tsk) : decide (0 ≤ cmpT p q) = !(befT p q) := by
  unfold cmpT or3 cmp3 befT
  by_cases h1 : p.2.2.1 = q.2.2.1
  · by_cases h2 : p.2.1 = q.2.1
    · by_cases h3 : p.1 < q.1 <;> by_cases h4 : q.1 < p.1 <;> simp [h1, h2, h3, h4] <;> omega
    · by_cases h3 : p.2.1 < q.2.1 <;> by_cases h4 : q.2.1 < p.2.1 <;> simp [h1, h2, h3, h4] <;> omega
  · by_cases h3 : p.2.2.1 < q.2.2.1 <;> by_cases h4 : q.2.2.1 < p.2.2.1 <;> simp [h1, h3, h4] <;> omega
theorem l00In_is {n lo hi : Int} {b : Bool} (h : inR n lo hi = b) {w : World} : Calls Try.prog 89 #[.int .i64 n, .int .i64 lo, .int .i64 hi] w fun e w' => e = .returned (.bool b) ∧ w' = w := by rw [← h]; exact l00In_any n lo hi w
theorem within_is {n lo hi : Int} {b : Bool} (h : inR n lo hi = b) {w : World} : Calls Try.prog 83 #[.int .i64 n, .int .i64 lo, .int .i64 hi] w fun e w' => e = .returned (.bool b) ∧ w' = w := by rw [← h]; exact within_any n lo hi w
/-- Is the k-th task as it should be? -/
def okT_ (l : List Tsk) (k : Nat) : Bool := oneT (l.getD k tz) && (k == 0 || befT (l.getD (k - 1) tz) (l.getD k tz))
def validT (l : List Tsk) : Bool := (List.range l.length).all (okT_ l) && decide (l.length ≤ 40)
theorem validT_false {l : List Tsk} {k : Nat} (hk : k < l.length) (h : okT_ l k = false) : validT l = false := by
  unfold validT
  rw [Bool.and_eq_false_iff]
  left
  rw [List.all_eq_false]
  exact ⟨k, by simpa using hk, by simp [h]⟩
theorem validT_end {l : List Tsk} (h : ∀ j, j < l.length → okT_ l j = true) : validT l = decide (l.length ≤ 40) := by
  unfold validT
  rw [List.all_eq_true.2 (fun j hj => h j (by simpa using hj)), Bool.true_and]
theorem okT_1 {l : List Tsk} {k : Nat} (hk : k < l.length) (h : oneT l[k] = false) : okT_ l k = false := by simp [okT_, List.getD, hk, h]
theorem okT_0 {l : List Tsk} (hk : 0 < l.length) (h : oneT l[0] = true) : okT_ l 0 = true := by simp [okT_, List.getD, hk, h]
theorem okT_s {l : List Tsk} {k : Nat} (hk : k + 1 < l.length) (h : oneT l[k + 1] = true) {b : Bool} (h3 : befT l[k] l[k + 1] = b) : okT_ l (k + 1) = b := by
  simp only [okT_, List.getD, List.getElem?_eq_getElem hk, List.getElem?_eq_getElem (show k < l.length by omega), Nat.add_sub_cancel, Option.getD_some]
  simp [h, h3]
theorem okT_more {l : List Tsk} {k : Nat} (h : ∀ j, j < k → okT_ l j = true) (hk : okT_ l k = true) : ∀ j, j < k + 1 → okT_ l j = true := by
  intro j hj
  rcases Nat.lt_or_ge j k with h1 | h1
  · exact h j h1
  · obtain rfl : j = k := by omega
    exact hk

set_option maxRecDepth 100000 in
set_option maxHeartbeats 2000000 in
theorem l11One_any (b off : Nat) (p0 p1 p2 p3 : Int) (w : World) (hp0 : w.cell? ⟨b, off, none⟩ = some (.int .i64 p0)) (hp1 : w.cell? ⟨b, off + 1, none⟩ = some (.int .i64 p1)) (hp2 : w.cell? ⟨b, off + 2, none⟩ = some (.int .i64 p2)) (hp3 : w.cell? ⟨b, off + 3, none⟩ = some (.int .i64 p3)) :
    Calls Try.prog 81 #[.pointer (some ⟨b, off, none⟩)] w fun e w' => e = .returned (.bool (oneT (p0, p1, p2, p3))) ∧ ∃ n, w' = w.drewN n := by
  unfold oneT
  dsimp only
  cases e1 : inR p0 0 9
  case false =>
    go_enter Try.func81, Try.ntmps81
    go_wp2_with fail
    go_quiet ((go_at_call 89; first | (with_reducible exact Calls.quiet_of_same (l00In_is e1))))
    go_wp2_with fail
    go_ret
    exact ⟨ret_bool (by simp), _, rfl⟩
  cases e2 : inR p1 0 5
  case false =>
    go_enter Try.func81, Try.ntmps81
    go_wp2_with fail
    go_quiet ((go_at_call 89; first | (with_reducible exact Calls.quiet_of_same (l00In_is e1)) | (with_reducible exact Calls.quiet_of_same (l00In_is e2))))
    go_wp2_with fail
    go_ret
    exact ⟨ret_bool (by simp), _, rfl⟩
  cases e3 : inR p2 0 1000000
  case false =>
    go_enter Try.func81, Try.ntmps81
    go_wp2_with fail
    go_quiet ((go_at_call 89; first | (with_reducible exact Calls.quiet_of_same (l00In_is e1)) | (with_reducible exact Calls.quiet_of_same (l00In_is e2)) | (with_reducible exact Calls.quiet_of_same (l00In_is e3))))
    go_wp2_with fail
    go_ret
    exact ⟨ret_bool (by simp), _, rfl⟩
  cases e4 : inR p3 p2 1000000
  case false =>
    go_enter Try.func81, Try.ntmps81
    go_wp2_with fail
    go_quiet ((go_at_call 89; first | (with_reducible exact Calls.quiet_of_same (l00In_is e1)) | (with_reducible exact Calls.quiet_of_same (l00In_is e2)) | (with_reducible exact Calls.quiet_of_same (l00In_is e3)) | (with_reducible exact Calls.quiet_of_same (l00In_is e4))))
    go_wp2_with fail
    go_ret
    exact ⟨ret_bool (by simp), _, rfl⟩
  go_enter Try.func81, Try.ntmps81
  go_wp2_with fail
  go_quiet ((go_at_call 89; first | (with_reducible exact Calls.quiet_of_same (l00In_is e1)) | (with_reducible exact Calls.quiet_of_same (l00In_is e2)) | (with_reducible exact Calls.quiet_of_same (l00In_is e3)) | (with_reducible exact Calls.quiet_of_same (l00In_is e4))))
  go_wp2_with fail
  go_ret
  exact ⟨ret_bool (by simp), _, rfl⟩

set_option maxRecDepth 100000 in
set_option maxHeartbeats 2000000 in
theorem timeOk_any (p0 p1 p2 p3 : Int) (w : World) :
    Calls Try.prog 84 #[.agg #[.int .i64 p0, .int .i64 p1, .int .i64 p2, .int .i64 p3]] w fun e w' => e = .returned (.bool (tmT p2 p3)) ∧ Below w.heap.size w w' := by
  unfold tmT
  cases e1 : decide (0 ≤ p2)
  case false =>
    go_enter Try.func84, Try.ntmps84
    go_wp2_with fail
    go_ret
    exact ⟨ret_bool (by simp), (Below.refl _ _).alloc (Nat.le_refl _) _⟩
  cases e2 : decide (p2 ≤ p3)
  case false =>
    go_enter Try.func84, Try.ntmps84
    go_wp2_with fail
    go_ret
    exact ⟨ret_bool (by simp), (Below.refl _ _).alloc (Nat.le_refl _) _⟩
  cases e3 : decide (p3 ≤ 1000000)
  case false =>
    go_enter Try.func84, Try.ntmps84
    go_wp2_with fail
    go_ret
    exact ⟨ret_bool (by simp), (Below.refl _ _).alloc (Nat.le_refl _) _⟩
  go_enter Try.func84, Try.ntmps84
  go_wp2_with fail
  go_ret
  exact ⟨ret_bool (by simp), (Below.refl _ _).alloc (Nat.le_refl _) _⟩

set_option maxRecDepth 100000 in
set_option maxHeartbeats 2000000 in
theorem taskValid_any (p0 p1 p2 p3 : Int) (w : World) :
    Calls Try.prog 48 #[.agg #[.int .i64 p0, .int .i64 p1, .int .i64 p2, .int .i64 p3]] w fun e w' => e = .returned (.bool (oneT (p0, p1, p2, p3))) ∧ Below w.heap.size w w' := by
  rw [← oneT_tm]
  dsimp only
  cases e1 : inR p0 0 9
  case false =>
    go_enter Try.func48, Try.ntmps48
    go_wp2_with (first | (go_at_call 83; (with_reducible refine (within_is e1).mono ?_); rintro e w' ⟨rfl, rfl⟩) | (go_at_call 84; refine (timeOk_any _ _ _ _ _).mono ?_; rintro e w1 ⟨rfl, hb⟩))
    go_ret
    exact ⟨ret_bool (by simp), ((Below.refl _ _).alloc (Nat.le_refl _) _)⟩
  cases e2 : inR p1 0 5
  case false =>
    go_enter Try.func48, Try.ntmps48
    go_wp2_with (first | (go_at_call 83; (with_reducible refine (within_is e1).mono ?_); rintro e w' ⟨rfl, rfl⟩) | (go_at_call 83; (with_reducible refine (within_is e2).mono ?_); rintro e w' ⟨rfl, rfl⟩) | (go_at_call 84; refine (timeOk_any _ _ _ _ _).mono ?_; rintro e w1 ⟨rfl, hb⟩))
    go_ret
    exact ⟨ret_bool (by simp), ((Below.refl _ _).alloc (Nat.le_refl _) _)⟩
  cases e3 : tmT p2 p3
  case false =>
    go_enter Try.func48, Try.ntmps48
    go_wp2_with (first | (go_at_call 83; (with_reducible refine (within_is e1).mono ?_); rintro e w' ⟨rfl, rfl⟩) | (go_at_call 83; (with_reducible refine (within_is e2).mono ?_); rintro e w' ⟨rfl, rfl⟩) | (go_at_call 84; refine (timeOk_any _ _ _ _ _).mono ?_; rintro e w1 ⟨rfl, hb⟩))
    go_ret
    exact ⟨ret_bool (by simp), ((Below.refl _ _).alloc (Nat.le_refl _) _).trans (hb.mono (by simp))⟩
  go_enter Try.func48, Try.ntmps48
  go_wp2_with (first | (go_at_call 83; (with_reducible refine (within_is e1).mono ?_); rintro e w' ⟨rfl, rfl⟩) | (go_at_call 83; (with_reducible refine (within_is e2).mono ?_); rintro e w' ⟨rfl, rfl⟩) | (go_at_call 84; refine (timeOk_any _ _ _ _ _).mono ?_; rintro e w1 ⟨rfl, hb⟩))
  go_ret
  exact ⟨ret_bool (by simp), ((Below.refl _ _).alloc (Nat.le_refl _) _).trans (hb.mono (by simp))⟩

set_option maxRecDepth 100000 in
set_option maxHeartbeats 2000000 in
theorem taskValid_is {p0 p1 p2 p3 : Int} {b : Bool} (h : oneT (p0, p1, p2, p3) = b) {w : World} :
    Calls Try.prog 48 #[.agg #[.int .i64 p0, .int .i64 p1, .int .i64 p2, .int .i64 p3]] w fun e w' => e = .returned (.bool b) ∧ Below w.heap.size w w' := by
  rw [← h]; exact taskValid_any p0 p1 p2 p3 w

set_option maxRecDepth 100000 in
set_option maxHeartbeats 2000000 in
theorem l12Before_any (b off b' off' : Nat) (p0 p1 p2 p3 q0 q1 q2 q3 : Int) (w : World) (hp0 : w.cell? ⟨b, off, none⟩ = some (.int .i64 p0)) (hp1 : w.cell? ⟨b, off + 1, none⟩ = some (.int .i64 p1)) (hp2 : w.cell? ⟨b, off + 2, none⟩ = some (.int .i64 p2)) (hp3 : w.cell? ⟨b, off + 3, none⟩ = some (.int .i64 p3)) (hq0 : w.cell? ⟨b', off', none⟩ = some (.int .i64 q0)) (hq1 : w.cell? ⟨b', off' + 1, none⟩ = some (.int .i64 q1)) (hq2 : w.cell? ⟨b', off' + 2, none⟩ = some (.int .i64 q2)) (hq3 : w.cell? ⟨b', off' + 3, none⟩ = some (.int .i64 q3)) :
    Calls Try.prog 82 #[.pointer (some ⟨b, off, none⟩), .pointer (some ⟨b', off', none⟩)] w fun e w' => e = .returned (.bool (befT (p0, p1, p2, p3) (q0, q1, q2, q3))) ∧ ∃ n, w' = w.drewN n := by
  unfold befT
  dsimp only
  cases e1 : (p2 == q2)
  case false =>
    have f1 : (p2 != q2) = true := by simpa using e1
    go_enter Try.func82, Try.ntmps82
    go_wp2_with fail
    go_quiet (fail)
    go_wp2_with fail
    go_quiet (fail)
    go_wp2_with fail
    go_ret
    exact ⟨ret_bool (by simp), _, rfl⟩
  have f1 : (p2 != q2) = false := by simpa using e1
  cases e2 : (p1 == q1)
  case false =>
    have f2 : (p1 != q1) = true := by simpa using e2
    go_enter Try.func82, Try.ntmps82
    go_wp2_with fail
    go_quiet (fail)
    go_wp2_with fail
    go_quiet (fail)
    go_wp2_with fail
    go_quiet (fail)
    go_wp2_with fail
    go_ret
    exact ⟨ret_bool (by simp), _, rfl⟩
  have f2 : (p1 != q1) = false := by simpa using e2
  go_enter Try.func82, Try.ntmps82
  go_wp2_with fail
  go_quiet (fail)
  go_wp2_with fail
  go_quiet (fail)
  go_wp2_with fail
  go_quiet (fail)
  go_wp2_with fail
  go_ret
  exact ⟨ret_bool (by simp), _, rfl⟩

set_option maxRecDepth 100000 in
set_option maxHeartbeats 2000000 in
theorem isNaN_any (a : Int) (w : World) :
    Calls Try.prog 109 #[.int .i64 a] w fun e w' => e = .returned (.bool false) ∧ w' = w := by
  go_enter Try.func109, Try.ntmps109
  go_wp2_with fail
  go_ret
  exact ⟨rfl, rfl⟩

set_option maxRecDepth 100000 in
set_option maxHeartbeats 2000000 in
theorem cmpCompare_any (a b : Int) (w : World) :
    Calls Try.prog 86 #[.int .i64 a, .int .i64 b] w fun e w' => e = .returned (.int .i64 (cmp3 a b)) ∧ w' = w := by
  unfold cmp3
  by_cases h1 : a < b
  · skip
    go_enter Try.func86, Try.ntmps86
    go_wp2_with (go_at_call 109; refine (isNaN_any _ _).mono ?_; rintro e w' ⟨rfl, rfl⟩)
    all_goals first | (exfalso; omega; done) | (go_ret; exact ⟨ret_int (by first | rfl | (simp [*]; done) | (simp [*]; omega)), rfl⟩)
  · by_cases h2 : b < a
    · skip
      go_enter Try.func86, Try.ntmps86
      go_wp2_with (go_at_call 109; refine (isNaN_any _ _).mono ?_; rintro e w' ⟨rfl, rfl⟩)
      all_goals first | (exfalso; omega; done) | (go_ret; exact ⟨ret_int (by first | rfl | (simp [*]; done) | (simp [*]; omega)), rfl⟩)
    · skip
      go_enter Try.func86, Try.ntmps86
      go_wp2_with (go_at_call 109; refine (isNaN_any _ _).mono ?_; rintro e w' ⟨rfl, rfl⟩)
      all_goals first | (exfalso; omega; done) | (go_ret; exact ⟨ret_int (by first | rfl | (simp [*]; done) | (simp [*]; omega)), rfl⟩)

set_option maxRecDepth 100000 in
set_option maxHeartbeats 2000000 in
theorem cmpOr_any (b c : Nat) (x y z : Int) (w : World) (h0 : w.cell? ⟨b, 0, none⟩ = some (.int .i64 x)) (h1 : w.cell? ⟨b, 1, none⟩ = some (.int .i64 y)) (h2 : w.cell? ⟨b, 2, none⟩ = some (.int .i64 z)) :
    Calls Try.prog 85 #[.slice (some ⟨b, 0, none⟩) 3 c] w fun e w' => e = .returned (.int .i64 (or3 x y z)) ∧ w' = w := by
  go_enter Try.func85, Try.ntmps85
  go_wp2
  go_loop [8] (fun i => ∃ k : Nat, k ≤ 3 ∧ i = .int .i64 k ∧ Hid (or3 x y z = if k = 0 then or3 x y z else if k = 1 then or3 0 y z else if k = 2 then or3 0 0 z else 0)) (fun i => 3 - (intOf i).toNat)
  case atStart => exact ⟨0, by omega, rfl, hide rfl⟩
  case round =>
    obtain ⟨k, hk, rfl, HV⟩ := hrel
    obtain rfl | rfl | rfl | rfl : k = 0 ∨ k = 1 ∨ k = 2 ∨ k = 3 := by omega
    · by_cases hz : x = 0
      · subst hz
        go_wp2_with fail
        go_round
        case rel => exact ⟨1, by omega, rfl, hide (by first | rfl | (rw [HV.out]; rfl) | (rw [HV.out]; simp [or3]))⟩
        case measure => first | (simp [intOf]; done) | (simp [intOf]; omega) | trace_state
      · have g1 : (x == 0) = false := by simpa using hz
        have g2 : (x != 0) = true := by simpa using hz
        have HZ := hide hz
        clear hz
        go_wp2_with fail
        go_ret
        exact ⟨ret_int (by rw [HV.out]; first | (simp [or3]; done) | (simp [or3]; intro h; exact absurd h HZ.out)), rfl⟩
    · by_cases hz : y = 0
      · subst hz
        go_wp2_with fail
        go_round
        case rel => exact ⟨2, by omega, rfl, hide (by first | rfl | (rw [HV.out]; rfl) | (rw [HV.out]; simp [or3]))⟩
        case measure => first | (simp [intOf]; done) | (simp [intOf]; omega) | trace_state
      · have g1 : (y == 0) = false := by simpa using hz
        have g2 : (y != 0) = true := by simpa using hz
        have HZ := hide hz
        clear hz
        go_wp2_with fail
        go_ret
        exact ⟨ret_int (by rw [HV.out]; first | (simp [or3]; done) | (simp [or3]; intro h; exact absurd h HZ.out)), rfl⟩
    · by_cases hz : z = 0
      · subst hz
        go_wp2_with fail
        go_round
        case rel => exact ⟨3, by omega, rfl, hide (by first | rfl | (rw [HV.out]; rfl) | (rw [HV.out]; simp [or3]))⟩
        case measure => first | (simp [intOf]; done) | (simp [intOf]; omega) | trace_state
      · have g1 : (z == 0) = false := by simpa using hz
        have g2 : (z != 0) = true := by simpa using hz
        have HZ := hide hz
        clear hz
        go_wp2_with fail
        go_ret
        exact ⟨ret_int (by rw [HV.out]; first | (simp [or3]; done) | (simp [or3]; intro h; exact absurd h HZ.out)), rfl⟩
    · go_wp2_with fail
      go_ret
      exact ⟨ret_int (by rw [HV.out]; rfl), rfl⟩

set_option maxRecDepth 100000 in
set_option maxHeartbeats 2000000 in
theorem cmpOr_new (x y z : Int) (W : World) (T : TypeId) (c : Nat) :
    Calls Try.prog 85 #[.slice (some ⟨W.heap.size, 0, none⟩) 3 c] (World.drew (W.alloc (.cells #[.int .i64 x, .int .i64 y, .int .i64 z] T))) fun e w' => e = .returned (.int .i64 (or3 x y z)) ∧ w' = World.drew (W.alloc (.cells #[.int .i64 x, .int .i64 y, .int .i64 z] T)) :=
  cmpOr_any _ _ _ _ _ _ (new_cell W _ T 0) (new_cell W _ T 1) (new_cell W _ T 2)

set_option maxRecDepth 100000 in
set_option maxHeartbeats 2000000 in
theorem compareTasks_any (p0 p1 p2 p3 q0 q1 q2 q3 : Int) (w : World) :
    Calls Try.prog 49 #[.agg #[.int .i64 p0, .int .i64 p1, .int .i64 p2, .int .i64 p3], .agg #[.int .i64 q0, .int .i64 q1, .int .i64 q2, .int .i64 q3]] w fun e w' => e = .returned (.int .i64 (cmpT (p0, p1, p2, p3) (q0, q1, q2, q3))) ∧ Below w.heap.size w w' := by
  unfold cmpT
  dsimp only
  go_enter Try.func49, Try.ntmps49
  go_wp2_with fail
  obtain ⟨W0, hW0⟩ : ∃ W0 : World, W0 = ((w.alloc (.cells #[.int .i64 p0, .int .i64 p1, .int .i64 p2, .int .i64 p3] 73)).alloc (.cells #[.int .i64 q0, .int .i64 q1, .int .i64 q2, .int .i64 q3] 73)) := ⟨_, rfl⟩
  rw [← hW0]
  have bP : Box W0 (w.heap.size) [.int .i64 p0, .int .i64 p1, .int .i64 p2, .int .i64 p3] := by rw [hW0]; exact (box_at _ _ _ _ (by simp)).alloc (by simp) _
  have bQ : Box W0 (w.heap.size + 1) [.int .i64 q0, .int .i64 q1, .int .i64 q2, .int .i64 q3] := by rw [hW0]; exact box_at _ _ _ _ (by simp)
  have hB : Below w.heap.size w W0 := by rw [hW0]; exact (by repeat (first | exact Below.refl _ _ | refine Below.drew ?_ | refine Below.alloc ?_ (by first | (simp; done) | (simp; omega)) _))
  have hs0 : w.heap.size + 2 ≤ W0.heap.size := by rw [hW0]; first | (simp; done) | (simp; omega)
  clear hW0
  have nbP : w.heap.size < W0.heap.size := by omega
  have lbP_0 := bP 0 _ rfl
  have lbP_1 := bP 1 _ rfl
  have lbP_2 := bP 2 _ rfl
  have lbP_3 := bP 3 _ rfl
  have nbQ : w.heap.size + 1 < W0.heap.size := by omega
  have lbQ_0 := bQ 0 _ rfl
  have lbQ_1 := bQ 1 _ rfl
  have lbQ_2 := bQ 2 _ rfl
  have lbQ_3 := bQ 3 _ rfl
  go_wp2_with fail
  have HS : Hid (W0.cell? ⟨w.heap.size, 0, none⟩ = some (.int .i64 p0) ∧ W0.cell? ⟨w.heap.size, 1, none⟩ = some (.int .i64 p1) ∧ W0.cell? ⟨w.heap.size, 2, none⟩ = some (.int .i64 p2) ∧ W0.cell? ⟨w.heap.size, 3, none⟩ = some (.int .i64 p3) ∧ W0.cell? ⟨w.heap.size + 1, 0, none⟩ = some (.int .i64 q0) ∧ W0.cell? ⟨w.heap.size + 1, 1, none⟩ = some (.int .i64 q1) ∧ W0.cell? ⟨w.heap.size + 1, 2, none⟩ = some (.int .i64 q2) ∧ W0.cell? ⟨w.heap.size + 1, 3, none⟩ = some (.int .i64 q3)) := hide ⟨bP 0 _ rfl, bP 1 _ rfl, bP 2 _ rfl, bP 3 _ rfl, bQ 0 _ rfl, bQ 1 _ rfl, bQ 2 _ rfl, bQ 3 _ rfl⟩
  have HD : Hid ((World.drew W0).cell? ⟨w.heap.size, 0, none⟩ = some (.int .i64 p0) ∧ (World.drew W0).cell? ⟨w.heap.size, 1, none⟩ = some (.int .i64 p1) ∧ (World.drew W0).cell? ⟨w.heap.size, 2, none⟩ = some (.int .i64 p2) ∧ (World.drew W0).cell? ⟨w.heap.size, 3, none⟩ = some (.int .i64 p3) ∧ (World.drew W0).cell? ⟨w.heap.size + 1, 0, none⟩ = some (.int .i64 q0) ∧ (World.drew W0).cell? ⟨w.heap.size + 1, 1, none⟩ = some (.int .i64 q1) ∧ (World.drew W0).cell? ⟨w.heap.size + 1, 2, none⟩ = some (.int .i64 q2) ∧ (World.drew W0).cell? ⟨w.heap.size + 1, 3, none⟩ = some (.int .i64 q3)) := HS
  have HA : Hid (∀ o : Obj, (World.drew (World.alloc W0 o)).cell? ⟨w.heap.size, 0, none⟩ = some (.int .i64 p0) ∧ (World.drew (World.alloc W0 o)).cell? ⟨w.heap.size, 1, none⟩ = some (.int .i64 p1) ∧ (World.drew (World.alloc W0 o)).cell? ⟨w.heap.size, 2, none⟩ = some (.int .i64 p2) ∧ (World.drew (World.alloc W0 o)).cell? ⟨w.heap.size, 3, none⟩ = some (.int .i64 p3) ∧ (World.drew (World.alloc W0 o)).cell? ⟨w.heap.size + 1, 0, none⟩ = some (.int .i64 q0) ∧ (World.drew (World.alloc W0 o)).cell? ⟨w.heap.size + 1, 1, none⟩ = some (.int .i64 q1) ∧ (World.drew (World.alloc W0 o)).cell? ⟨w.heap.size + 1, 2, none⟩ = some (.int .i64 q2) ∧ (World.drew (World.alloc W0 o)).cell? ⟨w.heap.size + 1, 3, none⟩ = some (.int .i64 q3)) := hide (fun o => ⟨Box.moreAt bP o 0 _ rfl, Box.moreAt bP o 1 _ rfl, Box.moreAt bP o 2 _ rfl, Box.moreAt bP o 3 _ rfl, Box.moreAt bQ o 0 _ rfl, Box.moreAt bQ o 1 _ rfl, Box.moreAt bQ o 2 _ rfl, Box.moreAt bQ o 3 _ rfl⟩)
  clear nbP lbP_0 lbP_1 lbP_2 lbP_3 nbQ lbQ_0 lbQ_1 lbQ_2 lbQ_3
  go_region_held3 (fun W => W.cell? ⟨w.heap.size, 0, none⟩ = some (.int .i64 p0) ∧ W.cell? ⟨w.heap.size, 1, none⟩ = some (.int .i64 p1) ∧ W.cell? ⟨w.heap.size, 2, none⟩ = some (.int .i64 p2) ∧ W.cell? ⟨w.heap.size, 3, none⟩ = some (.int .i64 p3) ∧ W.cell? ⟨w.heap.size + 1, 0, none⟩ = some (.int .i64 q0) ∧ W.cell? ⟨w.heap.size + 1, 1, none⟩ = some (.int .i64 q1) ∧ W.cell? ⟨w.heap.size + 1, 2, none⟩ = some (.int .i64 q2) ∧ W.cell? ⟨w.heap.size + 1, 3, none⟩ = some (.int .i64 q3)) (first | (with_reducible exact HS.out) | (with_reducible exact HD.out) | (with_reducible exact HA.out _)) (first | (go_at_call 86; (with_reducible refine (cmpCompare_any _ _ _).mono ?_); rintro e w' ⟨rfl, rfl⟩) | (go_at_call 85; (with_reducible refine (cmpOr_new _ _ _ _ _ _).mono ?_); rintro e w' ⟨rfl, rfl⟩))
  go_wp2_with fail
  go_ret
  exact ⟨rfl, by repeat (first | with_reducible exact hB | with_reducible refine Below.drew ?_ | with_reducible refine Below.alloc ?_ (by first | omega | (simp; omega)) _)⟩

set_option maxRecDepth 100000 in
set_option maxHeartbeats 2000000 in
theorem l11Ok_any (A : Option Addr) (n c lo hi : Nat) (l : List Tsk) (hn : n ≤ 1048576) (w : World) (hl : l.length = n) (h : Rd w lo hi 4 A n (rTask l)) (hhi : hi ≤ w.heap.size) :
    Calls Try.prog 46 #[.slice A n c] w fun e w' => e = .returned (.bool (validT l)) ∧ Below w.heap.size w w' := by
  have H1 := hide hl
  have H2 := hide h
  clear hl h
  go_enter Try.func46, Try.ntmps46
  go_wp2
  go_loopw [3] (fun i wr => ∃ k : Nat, k ≤ n ∧ i = .int .i64 k ∧ Hid (∀ j, j < k → okT_ l j = true) ∧ Below w.heap.size w wr) (fun i _ => n - (intOf i).toNat)
  case atStart => exact ⟨0, by omega, rfl, hide (fun j hj => absurd hj (by omega)), Below.refl _ _⟩
  case round =>
    obtain ⟨k, hk, rfl, hok, hbr⟩ := hrel
    by_cases hlt : k < n
    · skip
      have hlen : k < l.length := by rw [H1.out]; exact hlt
      obtain ⟨t0, t1, t2, t3⟩ := rTask_at l k hlen
      obtain ⟨b, off, rfl, hb1', hb2', hc⟩ := H2.out.2 (by omega)
      have c0 : wr.cell? ⟨b, off + k * 4, none⟩ = some (.int .i64 l[k].1) := (hbr.cell (p := ⟨b, _, none⟩) (by show b < _; omega)).trans (hc _ _ t0)
      have c1 : wr.cell? ⟨b, off + k * 4 + 1, none⟩ = some (.int .i64 l[k].2.1) := (hbr.cell (p := ⟨b, _, none⟩) (by show b < _; omega)).trans (hc _ _ t1)
      have c2 : wr.cell? ⟨b, off + k * 4 + 2, none⟩ = some (.int .i64 l[k].2.2.1) := (hbr.cell (p := ⟨b, _, none⟩) (by show b < _; omega)).trans (hc _ _ t2)
      have c3 : wr.cell? ⟨b, off + k * 4 + 3, none⟩ = some (.int .i64 l[k].2.2.2) := (hbr.cell (p := ⟨b, _, none⟩) (by show b < _; omega)).trans (hc _ _ t3)
      cases e1 : oneT l[k] with
      | false =>
        have E := hide (validT_false hlen (okT_1 hlen e1))
        clear t0 t1 t2 t3 hc hok
        generalize l[k] = p at *
        obtain ⟨p0, p1, p2, p3⟩ := p
        dsimp only at c0 c1 c2 c3
        go_wp2_with fail
        go_quiet ((first | (go_at_call 81; exact Calls.quiet_of (l11One_any _ _ _ _ _ _ _ c0 c1 c2 c3)) | (go_at_call 82; exact Calls.quiet_of (l12Before_any _ _ _ _ _ _ _ _ _ _ _ _ _ d0 d1 d2 d3 c0 c1 c2 c3))))
        go_wp2_with fail
        go_ret
        exact ⟨ret_bool E.out.symm, hbr.trans (Joins.below_draws _ _ _)⟩
      | true =>
        by_cases hk0 : k = 0
        · subst hk0
          have E := hide (okT_more hok.out (okT_0 hlen e1))
          clear t0 t1 t2 t3 hc hok
          simp only [Nat.zero_mul, Nat.add_zero] at c0 c1 c2 c3
          generalize l[0] = p at *
          obtain ⟨p0, p1, p2, p3⟩ := p
          dsimp only at c0 c1 c2 c3
          go_wp2_with fail
          go_quiet ((first | (go_at_call 81; exact Calls.quiet_of (l11One_any _ _ _ _ _ _ _ c0 c1 c2 c3)) | (go_at_call 82; exact Calls.quiet_of (l12Before_any _ _ _ _ _ _ _ _ _ _ _ _ _ d0 d1 d2 d3 c0 c1 c2 c3))))
          go_wp2_with fail
          go_roundw
          case rel => exact ⟨0 + 1, by omega, by go_num, E, hbr.trans (Joins.below_draws _ _ _)⟩
          case measure => simp [intOf]; omega
        · obtain ⟨k', rfl⟩ : ∃ k', k = k' + 1 := ⟨k - 1, by omega⟩
          clear hk0
          obtain ⟨s0, s1, s2, s3⟩ := rTask_at l k' (by omega)
          have d0 : wr.cell? ⟨b, off + k' * 4, none⟩ = some (.int .i64 l[k'].1) := (hbr.cell (p := ⟨b, _, none⟩) (by show b < _; omega)).trans (hc _ _ s0)
          have d1 : wr.cell? ⟨b, off + k' * 4 + 1, none⟩ = some (.int .i64 l[k'].2.1) := (hbr.cell (p := ⟨b, _, none⟩) (by show b < _; omega)).trans (hc _ _ s1)
          have d2 : wr.cell? ⟨b, off + k' * 4 + 2, none⟩ = some (.int .i64 l[k'].2.2.1) := (hbr.cell (p := ⟨b, _, none⟩) (by show b < _; omega)).trans (hc _ _ s2)
          have d3 : wr.cell? ⟨b, off + k' * 4 + 3, none⟩ = some (.int .i64 l[k'].2.2.2) := (hbr.cell (p := ⟨b, _, none⟩) (by show b < _; omega)).trans (hc _ _ s3)
          cases e2 : befT l[k'] l[k' + 1] with
          | false =>
            have E := hide (validT_false hlen (okT_s hlen e1 e2))
            have f2 := cmpT_bef l[k'] l[k' + 1]
            rw [e2] at f2
            clear t0 t1 t2 t3 s0 s1 s2 s3 hc hok
            generalize l[k' + 1] = p at *
            obtain ⟨p0, p1, p2, p3⟩ := p
            generalize l[k'] = q at *
            obtain ⟨q0, q1, q2, q3⟩ := q
            dsimp only at c0 c1 c2 c3 d0 d1 d2 d3
            clear f2
            go_wp2_with fail
            go_quiet ((first | (go_at_call 81; exact Calls.quiet_of (l11One_any _ _ _ _ _ _ _ c0 c1 c2 c3)) | (go_at_call 82; exact Calls.quiet_of (l12Before_any _ _ _ _ _ _ _ _ _ _ _ _ _ d0 d1 d2 d3 c0 c1 c2 c3))))
            go_wp2_with fail
            go_ret
            exact ⟨ret_bool E.out.symm, hbr.trans (Joins.below_draws _ _ _)⟩
          | true =>
            have E := hide (okT_more hok.out (okT_s hlen e1 e2))
            have f2 := cmpT_bef l[k'] l[k' + 1]
            rw [e2] at f2
            clear t0 t1 t2 t3 s0 s1 s2 s3 hc hok
            generalize l[k' + 1] = p at *
            obtain ⟨p0, p1, p2, p3⟩ := p
            generalize l[k'] = q at *
            obtain ⟨q0, q1, q2, q3⟩ := q
            dsimp only at c0 c1 c2 c3 d0 d1 d2 d3
            clear f2
            go_wp2_with fail
            go_quiet ((first | (go_at_call 81; exact Calls.quiet_of (l11One_any _ _ _ _ _ _ _ c0 c1 c2 c3)) | (go_at_call 82; exact Calls.quiet_of (l12Before_any _ _ _ _ _ _ _ _ _ _ _ _ _ d0 d1 d2 d3 c0 c1 c2 c3))))
            go_wp2_with fail
            go_roundw
            case rel => exact ⟨k' + 1 + 1, by omega, by go_num, E, hbr.trans (Joins.below_draws _ _ _)⟩
            case measure => simp [intOf]; omega
    · obtain rfl : k = n := by omega
      have E := hide (validT_end (fun j hj => hok.out j (by rw [H1.out] at hj; exact hj)))
      rw [H1.out] at E
      clear hok
      by_cases h2 : k ≤ 40
      · go_wp2
        go_ret
        exact ⟨ret_bool (by rw [E.out]; simp [h2]; try omega), hbr⟩
      · go_wp2
        go_ret
        exact ⟨ret_bool (by rw [E.out]; simp [h2]; try omega), hbr⟩

set_option maxRecDepth 100000 in
set_option maxHeartbeats 2000000 in
theorem implValidTasks_any (A : Option Addr) (n c lo hi : Nat) (l : List Tsk) (hn : n ≤ 1048576) (w : World) (hl : l.length = n) (h : Rd w lo hi 4 A n (rTask l)) (hhi : hi ≤ w.heap.size) :
    Calls Try.prog 14 #[.slice A n c] w fun e w' => e = .returned (.bool (validT l)) ∧ Below w.heap.size w w' := by
  have H1 := hide hl
  have H2 := hide h
  clear hl h
  go_enter Try.func14, Try.ntmps14
  go_wp2
  go_loopw [7] (fun i wr => ∃ k : Nat, k ≤ n ∧ i = .int .i64 k ∧ Hid (∀ j, j < k → okT_ l j = true) ∧ Below w.heap.size w wr) (fun i _ => n - (intOf i).toNat)
  case atStart => exact ⟨0, by omega, rfl, hide (fun j hj => absurd hj (by omega)), Below.refl _ _⟩
  case round =>
    obtain ⟨k, hk, rfl, hok, hbr⟩ := hrel
    by_cases hlt : k < n
    · skip
      have hlen : k < l.length := by rw [H1.out]; exact hlt
      obtain ⟨t0, t1, t2, t3⟩ := rTask_at l k hlen
      obtain ⟨b, off, rfl, hb1', hb2', hc⟩ := H2.out.2 (by omega)
      have c0 : wr.cell? ⟨b, off + k * 4, none⟩ = some (.int .i64 l[k].1) := (hbr.cell (p := ⟨b, _, none⟩) (by show b < _; omega)).trans (hc _ _ t0)
      have c1 : wr.cell? ⟨b, off + k * 4 + 1, none⟩ = some (.int .i64 l[k].2.1) := (hbr.cell (p := ⟨b, _, none⟩) (by show b < _; omega)).trans (hc _ _ t1)
      have c2 : wr.cell? ⟨b, off + k * 4 + 2, none⟩ = some (.int .i64 l[k].2.2.1) := (hbr.cell (p := ⟨b, _, none⟩) (by show b < _; omega)).trans (hc _ _ t2)
      have c3 : wr.cell? ⟨b, off + k * 4 + 3, none⟩ = some (.int .i64 l[k].2.2.2) := (hbr.cell (p := ⟨b, _, none⟩) (by show b < _; omega)).trans (hc _ _ t3)
      cases e1 : oneT l[k] with
      | false =>
        have E := hide (validT_false hlen (okT_1 hlen e1))
        clear t0 t1 t2 t3 hc hok
        generalize l[k] = p at *
        obtain ⟨p0, p1, p2, p3⟩ := p
        dsimp only at c0 c1 c2 c3
        have hbl : b < wr.heap.size := by have := hbr.size; omega
        have HB := hide hbr
        go_wp2_with fail
        obtain ⟨wx, hwx⟩ : ∃ wx : World, wr.alloc (.cells #[.int .i64 p0, .int .i64 p1, .int .i64 p2, .int .i64 p3] 73) = wx := ⟨_, rfl⟩
        rw [hwx]
        have hbx : Below w.heap.size w wx := by rw [← hwx]; exact hbr.alloc hbr.size _
        have bx : Box wx wr.heap.size [.int .i64 p0, .int .i64 p1, .int .i64 p2, .int .i64 p3] := by rw [← hwx]; exact box_new _ _ _
        have hsx : wr.heap.size < wx.heap.size := by rw [← hwx]; simp
        have x0 := bx 0 _ rfl
        have x1 := bx 1 _ rfl
        have x2 := bx 2 _ rfl
        have x3 := bx 3 _ rfl
        clear hwx c0 c1 c2 c3 bx
        refine wp_region_any (by kernel_rfl) ?_
        try (change wpAny _ _ _ _ _ _ _ (World.drew _))
        refine wpAny_ready (rs := [0]) (by kernel_rfl) (by simp) ?_
        refine AllReady.cons rfl (fun K hK => ?_) AllReady.nil
        go_simp
        refine hK _ _ ?_
        clear hK K
        refine wpAny_ready (rs := [1]) (by kernel_rfl) (by simp) ?_
        refine AllReady.cons rfl (fun K hK => ?_) AllReady.nil
        go_simp
        (with_reducible refine (taskValid_is e1).mono ?_); rintro e w1 ⟨rfl, hb1⟩
        refine hK _ _ ?_
        clear hK K
        try simp only [Act.put, List.getElem_toArray, List.getElem_cons_succ, List.getElem_cons_zero, List.setIfInBounds_toArray, List.set_cons_succ, List.set_cons_zero]
        refine wpAny_take (i := 2) (v := ?_) rfl (by kernel_rfl) (by kernel_rfl) (by kernel_rfl) (fun _ _ _ h => h) (Or.inl ⟨by rfl, ?_⟩) ?_
        rotate_left
        · (intro w; go_simp; try (with_reducible rfl))
        simp only [Act.put, List.getElem_toArray, List.getElem_cons_succ, List.getElem_cons_zero, List.setIfInBounds_toArray, List.set_cons_succ, List.set_cons_zero]
        refine wpAny_take (i := 3) (v := ?_) rfl (by kernel_rfl) (by kernel_rfl) (by kernel_rfl) (fun _ _ _ h => h) (Or.inl ⟨by rfl, ?_⟩) ?_
        rotate_left
        · (intro w; go_simp; try (with_reducible rfl))
        simp only [Act.put, List.getElem_toArray, List.getElem_cons_succ, List.getElem_cons_zero, List.setIfInBounds_toArray, List.set_cons_succ, List.set_cons_zero]
        refine wpAny_take (i := 4) (v := undef) rfl (by kernel_rfl) (by kernel_rfl) (by kernel_rfl) (fun _ _ _ h => h) (Or.inr ⟨by rfl, rfl⟩) ?_
        simp only [Act.put, List.getElem_toArray, List.getElem_cons_succ, List.getElem_cons_zero, List.setIfInBounds_toArray, List.set_cons_succ, List.set_cons_zero]
        refine wpAny_take (i := 5) (v := undef) rfl (by kernel_rfl) (by kernel_rfl) (by kernel_rfl) (fun _ _ _ h => h) (Or.inr ⟨by rfl, rfl⟩) ?_
        simp only [Act.put, List.getElem_toArray, List.getElem_cons_succ, List.getElem_cons_zero, List.setIfInBounds_toArray, List.set_cons_succ, List.set_cons_zero]
        refine wpAny_take (i := 6) (v := undef) rfl (by kernel_rfl) (by kernel_rfl) (by kernel_rfl) (fun _ _ _ h => h) (Or.inr ⟨by rfl, rfl⟩) ?_
        simp only [Act.put, List.getElem_toArray, List.getElem_cons_succ, List.getElem_cons_zero, List.setIfInBounds_toArray, List.set_cons_succ, List.set_cons_zero]
        refine wpAny_take (i := 7) (v := undef) rfl (by kernel_rfl) (by kernel_rfl) (by kernel_rfl) (fun _ _ _ h => h) (Or.inr ⟨by rfl, rfl⟩) ?_
        simp only [Act.put, List.getElem_toArray, List.getElem_cons_succ, List.getElem_cons_zero, List.setIfInBounds_toArray, List.set_cons_succ, List.set_cons_zero]
        refine wpAny_take (i := 8) (v := undef) rfl (by kernel_rfl) (by kernel_rfl) (by kernel_rfl) (fun _ _ _ h => h) (Or.inr ⟨by rfl, rfl⟩) ?_
        simp only [Act.put, List.getElem_toArray, List.getElem_cons_succ, List.getElem_cons_zero, List.setIfInBounds_toArray, List.set_cons_succ, List.set_cons_zero]
        refine wpAny_take (i := 9) (v := undef) rfl (by kernel_rfl) (by kernel_rfl) (by kernel_rfl) (fun _ _ _ h => h) (Or.inr ⟨by rfl, rfl⟩) ?_
        simp only [Act.put, List.getElem_toArray, List.getElem_cons_succ, List.getElem_cons_zero, List.setIfInBounds_toArray, List.set_cons_succ, List.set_cons_zero]
        refine wpAny_take (i := 10) (v := undef) rfl (by kernel_rfl) (by kernel_rfl) (by kernel_rfl) (fun _ _ _ h => h) (Or.inr ⟨by rfl, rfl⟩) ?_
        simp only [Act.put, List.getElem_toArray, List.getElem_cons_succ, List.getElem_cons_zero, List.setIfInBounds_toArray, List.set_cons_succ, List.set_cons_zero]
        refine wpAny_take (i := 11) (v := undef) rfl (by kernel_rfl) (by kernel_rfl) (by kernel_rfl) (fun _ _ _ h => h) (Or.inr ⟨by rfl, rfl⟩) ?_
        simp only [Act.put, List.getElem_toArray, List.getElem_cons_succ, List.getElem_cons_zero, List.setIfInBounds_toArray, List.set_cons_succ, List.set_cons_zero]
        refine wpAny_take (i := 12) (v := undef) rfl (by kernel_rfl) (by kernel_rfl) (by kernel_rfl) (fun _ _ _ h => h) (Or.inr ⟨by rfl, rfl⟩) ?_
        simp only [Act.put, List.getElem_toArray, List.getElem_cons_succ, List.getElem_cons_zero, List.setIfInBounds_toArray, List.set_cons_succ, List.set_cons_zero]
        refine wpAny_take (i := 13) (v := undef) rfl (by kernel_rfl) (by kernel_rfl) (by kernel_rfl) (fun _ _ _ h => h) (Or.inr ⟨by rfl, rfl⟩) ?_
        simp only [Act.put, List.getElem_toArray, List.getElem_cons_succ, List.getElem_cons_zero, List.setIfInBounds_toArray, List.set_cons_succ, List.set_cons_zero]
        refine wpAny_take (i := 14) (v := undef) rfl (by kernel_rfl) (by kernel_rfl) (by kernel_rfl) (fun _ _ _ h => h) (Or.inr ⟨by rfl, rfl⟩) ?_
        simp only [Act.put, List.getElem_toArray, List.getElem_cons_succ, List.getElem_cons_zero, List.setIfInBounds_toArray, List.set_cons_succ, List.set_cons_zero]
        refine wpAny_take (i := 15) (v := undef) rfl (by kernel_rfl) (by kernel_rfl) (by kernel_rfl) (fun _ _ _ h => h) (Or.inr ⟨by rfl, rfl⟩) ?_
        simp only [Act.put, List.getElem_toArray, List.getElem_cons_succ, List.getElem_cons_zero, List.setIfInBounds_toArray, List.set_cons_succ, List.set_cons_zero]
        refine wpAny_take (i := 16) (v := ?_) rfl (by kernel_rfl) (by kernel_rfl) (by kernel_rfl) (fun _ _ _ h => h) (Or.inl ⟨by rfl, ?_⟩) ?_
        rotate_left
        · (intro w; go_simp; try (with_reducible rfl))
        simp only [Act.put, List.getElem_toArray, List.getElem_cons_succ, List.getElem_cons_zero, List.setIfInBounds_toArray, List.set_cons_succ, List.set_cons_zero]
        refine wpAny_done (by kernel_rfl) ?_ _
        have hbz : Below w.heap.size w w1 := hbx.trans ((Below.trans (Below.refl _ _).drew hb1).mono hbx.size)
        go_wp2_with fail
        go_ret
        exact ⟨ret_bool E.out.symm, hbz⟩
      | true =>
        by_cases hk0 : k = 0
        · subst hk0
          have E := hide (okT_more hok.out (okT_0 hlen e1))
          clear t0 t1 t2 t3 hc hok
          simp only [Nat.zero_mul, Nat.add_zero] at c0 c1 c2 c3
          generalize l[0] = p at *
          obtain ⟨p0, p1, p2, p3⟩ := p
          dsimp only at c0 c1 c2 c3
          have hbl : b < wr.heap.size := by have := hbr.size; omega
          have HB := hide hbr
          go_wp2_with fail
          obtain ⟨wx, hwx⟩ : ∃ wx : World, wr.alloc (.cells #[.int .i64 p0, .int .i64 p1, .int .i64 p2, .int .i64 p3] 73) = wx := ⟨_, rfl⟩
          rw [hwx]
          have hbx : Below w.heap.size w wx := by rw [← hwx]; exact hbr.alloc hbr.size _
          have bx : Box wx wr.heap.size [.int .i64 p0, .int .i64 p1, .int .i64 p2, .int .i64 p3] := by rw [← hwx]; exact box_new _ _ _
          have hsx : wr.heap.size < wx.heap.size := by rw [← hwx]; simp
          have x0 := bx 0 _ rfl
          have x1 := bx 1 _ rfl
          have x2 := bx 2 _ rfl
          have x3 := bx 3 _ rfl
          clear hwx c0 c1 c2 c3 bx
          refine wp_region_any (by kernel_rfl) ?_
          try (change wpAny _ _ _ _ _ _ _ (World.drew _))
          refine wpAny_ready (rs := [0]) (by kernel_rfl) (by simp) ?_
          refine AllReady.cons rfl (fun K hK => ?_) AllReady.nil
          go_simp
          refine hK _ _ ?_
          clear hK K
          refine wpAny_ready (rs := [1]) (by kernel_rfl) (by simp) ?_
          refine AllReady.cons rfl (fun K hK => ?_) AllReady.nil
          go_simp
          (with_reducible refine (taskValid_is e1).mono ?_); rintro e w1 ⟨rfl, hb1⟩
          refine hK _ _ ?_
          clear hK K
          try simp only [Act.put, List.getElem_toArray, List.getElem_cons_succ, List.getElem_cons_zero, List.setIfInBounds_toArray, List.set_cons_succ, List.set_cons_zero]
          refine wpAny_take (i := 2) (v := ?_) rfl (by kernel_rfl) (by kernel_rfl) (by kernel_rfl) (fun _ _ _ h => h) (Or.inl ⟨by rfl, ?_⟩) ?_
          rotate_left
          · (intro w; go_simp; try (with_reducible rfl))
          simp only [Act.put, List.getElem_toArray, List.getElem_cons_succ, List.getElem_cons_zero, List.setIfInBounds_toArray, List.set_cons_succ, List.set_cons_zero]
          refine wpAny_take (i := 3) (v := ?_) rfl (by kernel_rfl) (by kernel_rfl) (by kernel_rfl) (fun _ _ _ h => h) (Or.inl ⟨by rfl, ?_⟩) ?_
          rotate_left
          · (intro w; go_simp; try (with_reducible rfl))
          simp only [Act.put, List.getElem_toArray, List.getElem_cons_succ, List.getElem_cons_zero, List.setIfInBounds_toArray, List.set_cons_succ, List.set_cons_zero]
          refine wpAny_take (i := 4) (v := ?_) rfl (by kernel_rfl) (by kernel_rfl) (by kernel_rfl) (fun _ _ _ h => h) (Or.inl ⟨by rfl, ?_⟩) ?_
          rotate_left
          · (intro w; go_simp; try (with_reducible rfl))
          simp only [Act.put, List.getElem_toArray, List.getElem_cons_succ, List.getElem_cons_zero, List.setIfInBounds_toArray, List.set_cons_succ, List.set_cons_zero]
          refine wpAny_take (i := 5) (v := ?_) rfl (by kernel_rfl) (by kernel_rfl) (by kernel_rfl) (fun _ _ _ h => h) (Or.inl ⟨by rfl, ?_⟩) ?_
          rotate_left
          · (intro w; go_simp; try (with_reducible rfl))
          simp only [Act.put, List.getElem_toArray, List.getElem_cons_succ, List.getElem_cons_zero, List.setIfInBounds_toArray, List.set_cons_succ, List.set_cons_zero]
          refine wpAny_take (i := 6) (v := ?_) rfl (by kernel_rfl) (by kernel_rfl) (by kernel_rfl) (fun _ _ _ h => h) (Or.inl ⟨by rfl, ?_⟩) ?_
          rotate_left
          · (intro w; go_simp; try (with_reducible rfl))
          simp only [Act.put, List.getElem_toArray, List.getElem_cons_succ, List.getElem_cons_zero, List.setIfInBounds_toArray, List.set_cons_succ, List.set_cons_zero]
          refine wpAny_take (i := 7) (v := undef) rfl (by kernel_rfl) (by kernel_rfl) (by kernel_rfl) (fun _ _ _ h => h) (Or.inr ⟨by rfl, rfl⟩) ?_
          simp only [Act.put, List.getElem_toArray, List.getElem_cons_succ, List.getElem_cons_zero, List.setIfInBounds_toArray, List.set_cons_succ, List.set_cons_zero]
          refine wpAny_take (i := 8) (v := undef) rfl (by kernel_rfl) (by kernel_rfl) (by kernel_rfl) (fun _ _ _ h => h) (Or.inr ⟨by rfl, rfl⟩) ?_
          simp only [Act.put, List.getElem_toArray, List.getElem_cons_succ, List.getElem_cons_zero, List.setIfInBounds_toArray, List.set_cons_succ, List.set_cons_zero]
          refine wpAny_take (i := 9) (v := undef) rfl (by kernel_rfl) (by kernel_rfl) (by kernel_rfl) (fun _ _ _ h => h) (Or.inr ⟨by rfl, rfl⟩) ?_
          simp only [Act.put, List.getElem_toArray, List.getElem_cons_succ, List.getElem_cons_zero, List.setIfInBounds_toArray, List.set_cons_succ, List.set_cons_zero]
          refine wpAny_take (i := 10) (v := undef) rfl (by kernel_rfl) (by kernel_rfl) (by kernel_rfl) (fun _ _ _ h => h) (Or.inr ⟨by rfl, rfl⟩) ?_
          simp only [Act.put, List.getElem_toArray, List.getElem_cons_succ, List.getElem_cons_zero, List.setIfInBounds_toArray, List.set_cons_succ, List.set_cons_zero]
          refine wpAny_take (i := 11) (v := undef) rfl (by kernel_rfl) (by kernel_rfl) (by kernel_rfl) (fun _ _ _ h => h) (Or.inr ⟨by rfl, rfl⟩) ?_
          simp only [Act.put, List.getElem_toArray, List.getElem_cons_succ, List.getElem_cons_zero, List.setIfInBounds_toArray, List.set_cons_succ, List.set_cons_zero]
          refine wpAny_take (i := 12) (v := undef) rfl (by kernel_rfl) (by kernel_rfl) (by kernel_rfl) (fun _ _ _ h => h) (Or.inr ⟨by rfl, rfl⟩) ?_
          simp only [Act.put, List.getElem_toArray, List.getElem_cons_succ, List.getElem_cons_zero, List.setIfInBounds_toArray, List.set_cons_succ, List.set_cons_zero]
          refine wpAny_take (i := 13) (v := undef) rfl (by kernel_rfl) (by kernel_rfl) (by kernel_rfl) (fun _ _ _ h => h) (Or.inr ⟨by rfl, rfl⟩) ?_
          simp only [Act.put, List.getElem_toArray, List.getElem_cons_succ, List.getElem_cons_zero, List.setIfInBounds_toArray, List.set_cons_succ, List.set_cons_zero]
          refine wpAny_take (i := 14) (v := undef) rfl (by kernel_rfl) (by kernel_rfl) (by kernel_rfl) (fun _ _ _ h => h) (Or.inr ⟨by rfl, rfl⟩) ?_
          simp only [Act.put, List.getElem_toArray, List.getElem_cons_succ, List.getElem_cons_zero, List.setIfInBounds_toArray, List.set_cons_succ, List.set_cons_zero]
          refine wpAny_take (i := 15) (v := ?_) rfl (by kernel_rfl) (by kernel_rfl) (by kernel_rfl) (fun _ _ _ h => h) (Or.inl ⟨by rfl, ?_⟩) ?_
          rotate_left
          · (intro w; go_simp; try (with_reducible rfl))
          simp only [Act.put, List.getElem_toArray, List.getElem_cons_succ, List.getElem_cons_zero, List.setIfInBounds_toArray, List.set_cons_succ, List.set_cons_zero]
          refine wpAny_take (i := 16) (v := ?_) rfl (by kernel_rfl) (by kernel_rfl) (by kernel_rfl) (fun _ _ _ h => h) (Or.inl ⟨by rfl, ?_⟩) ?_
          rotate_left
          · (intro w; go_simp; try (with_reducible rfl))
          simp only [Act.put, List.getElem_toArray, List.getElem_cons_succ, List.getElem_cons_zero, List.setIfInBounds_toArray, List.set_cons_succ, List.set_cons_zero]
          refine wpAny_done (by kernel_rfl) ?_ _
          have hbz : Below w.heap.size w w1 := hbx.trans ((Below.trans (Below.refl _ _).drew hb1).mono hbx.size)
          go_wp2_with fail
          go_roundw
          case rel => exact ⟨0 + 1, by omega, by go_num, E, hbz⟩
          case measure => simp [intOf]; omega
        · obtain ⟨k', rfl⟩ : ∃ k', k = k' + 1 := ⟨k - 1, by omega⟩
          clear hk0
          obtain ⟨s0, s1, s2, s3⟩ := rTask_at l k' (by omega)
          have d0 : wr.cell? ⟨b, off + k' * 4, none⟩ = some (.int .i64 l[k'].1) := (hbr.cell (p := ⟨b, _, none⟩) (by show b < _; omega)).trans (hc _ _ s0)
          have d1 : wr.cell? ⟨b, off + k' * 4 + 1, none⟩ = some (.int .i64 l[k'].2.1) := (hbr.cell (p := ⟨b, _, none⟩) (by show b < _; omega)).trans (hc _ _ s1)
          have d2 : wr.cell? ⟨b, off + k' * 4 + 2, none⟩ = some (.int .i64 l[k'].2.2.1) := (hbr.cell (p := ⟨b, _, none⟩) (by show b < _; omega)).trans (hc _ _ s2)
          have d3 : wr.cell? ⟨b, off + k' * 4 + 3, none⟩ = some (.int .i64 l[k'].2.2.2) := (hbr.cell (p := ⟨b, _, none⟩) (by show b < _; omega)).trans (hc _ _ s3)
          cases e2 : befT l[k'] l[k' + 1] with
          | false =>
            have E := hide (validT_false hlen (okT_s hlen e1 e2))
            have f2 := cmpT_bef l[k'] l[k' + 1]
            rw [e2] at f2
            clear t0 t1 t2 t3 s0 s1 s2 s3 hc hok
            generalize l[k' + 1] = p at *
            obtain ⟨p0, p1, p2, p3⟩ := p
            generalize l[k'] = q at *
            obtain ⟨q0, q1, q2, q3⟩ := q
            dsimp only at c0 c1 c2 c3 d0 d1 d2 d3
            first | rw [Bool.not_false] at f2 | rw [Bool.not_true] at f2
            have hbl : b < wr.heap.size := by have := hbr.size; omega
            have HB := hide hbr
            go_wp2_with fail
            obtain ⟨wx, hwx⟩ : ∃ wx : World, wr.alloc (.cells #[.int .i64 p0, .int .i64 p1, .int .i64 p2, .int .i64 p3] 73) = wx := ⟨_, rfl⟩
            rw [hwx]
            have hbx : Below w.heap.size w wx := by rw [← hwx]; exact hbr.alloc hbr.size _
            have bx : Box wx wr.heap.size [.int .i64 p0, .int .i64 p1, .int .i64 p2, .int .i64 p3] := by rw [← hwx]; exact box_new _ _ _
            have hsx : wr.heap.size < wx.heap.size := by rw [← hwx]; simp
            replace d0 := (World.cell?_alloc_lt wr (.cells #[.int .i64 p0, .int .i64 p1, .int .i64 p2, .int .i64 p3] 73) ⟨b, _, none⟩ hbl).trans d0
            replace d1 := (World.cell?_alloc_lt wr (.cells #[.int .i64 p0, .int .i64 p1, .int .i64 p2, .int .i64 p3] 73) ⟨b, _, none⟩ hbl).trans d1
            replace d2 := (World.cell?_alloc_lt wr (.cells #[.int .i64 p0, .int .i64 p1, .int .i64 p2, .int .i64 p3] 73) ⟨b, _, none⟩ hbl).trans d2
            replace d3 := (World.cell?_alloc_lt wr (.cells #[.int .i64 p0, .int .i64 p1, .int .i64 p2, .int .i64 p3] 73) ⟨b, _, none⟩ hbl).trans d3
            rw [hwx] at d0 d1 d2 d3
            have x0 := bx 0 _ rfl
            have x1 := bx 1 _ rfl
            have x2 := bx 2 _ rfl
            have x3 := bx 3 _ rfl
            clear hwx c0 c1 c2 c3 bx
            have y0 : (0 : Int) ≤ (k' : Int) := by omega
            have y1 : (k' : Int) < (n : Int) := by omega
            have y2 : IntKind.i64.wrap ((k' : Int) + 1 - 1) = (k' : Int) := by rw [Int.add_sub_cancel]; exact IntWalk.i64_in _ ⟨by omega, by omega⟩
            have y3 : IntKind.i64.wrap (k' : Int) = (k' : Int) := IntWalk.i64_in _ ⟨by omega, by omega⟩
            have HS : Hid ((World.drew wx).cell? ⟨wr.heap.size, 0, none⟩ = some (.int .i64 p0) ∧ (World.drew wx).cell? ⟨wr.heap.size, 1, none⟩ = some (.int .i64 p1) ∧ (World.drew wx).cell? ⟨wr.heap.size, 2, none⟩ = some (.int .i64 p2) ∧ (World.drew wx).cell? ⟨wr.heap.size, 3, none⟩ = some (.int .i64 p3) ∧ (World.drew wx).cell? ⟨b, off + k' * 4, none⟩ = some (.int .i64 q0) ∧ (World.drew wx).cell? ⟨b, off + k' * 4 + 1, none⟩ = some (.int .i64 q1) ∧ (World.drew wx).cell? ⟨b, off + k' * 4 + 2, none⟩ = some (.int .i64 q2) ∧ (World.drew wx).cell? ⟨b, off + k' * 4 + 3, none⟩ = some (.int .i64 q3)) := hide ⟨x0, x1, x2, x3, d0, d1, d2, d3⟩
            clear x0 x1 x2 x3 d0 d1 d2 d3
            go_region_held3 (fun W => W.cell? ⟨wr.heap.size, 0, none⟩ = some (.int .i64 p0) ∧ W.cell? ⟨wr.heap.size, 1, none⟩ = some (.int .i64 p1) ∧ W.cell? ⟨wr.heap.size, 2, none⟩ = some (.int .i64 p2) ∧ W.cell? ⟨wr.heap.size, 3, none⟩ = some (.int .i64 p3) ∧ W.cell? ⟨b, off + k' * 4, none⟩ = some (.int .i64 q0) ∧ W.cell? ⟨b, off + k' * 4 + 1, none⟩ = some (.int .i64 q1) ∧ W.cell? ⟨b, off + k' * 4 + 2, none⟩ = some (.int .i64 q2) ∧ W.cell? ⟨b, off + k' * 4 + 3, none⟩ = some (.int .i64 q3)) (with_reducible exact HS.out) (first | (go_at_call 48; (with_reducible refine (taskValid_is e1).mono ?_); rintro e w1 ⟨rfl, hb1⟩; have HS : Hid (w1.cell? ⟨wr.heap.size, 0, none⟩ = some (.int .i64 p0) ∧ w1.cell? ⟨wr.heap.size, 1, none⟩ = some (.int .i64 p1) ∧ w1.cell? ⟨wr.heap.size, 2, none⟩ = some (.int .i64 p2) ∧ w1.cell? ⟨wr.heap.size, 3, none⟩ = some (.int .i64 p3) ∧ w1.cell? ⟨b, off + k' * 4, none⟩ = some (.int .i64 q0) ∧ w1.cell? ⟨b, off + k' * 4 + 1, none⟩ = some (.int .i64 q1) ∧ w1.cell? ⟨b, off + k' * 4 + 2, none⟩ = some (.int .i64 q2) ∧ w1.cell? ⟨b, off + k' * 4 + 3, none⟩ = some (.int .i64 q3)) := hide ⟨(hb1.cell (p := ⟨wr.heap.size, 0, none⟩) hsx).trans HS.out.1, (hb1.cell (p := ⟨wr.heap.size, 1, none⟩) hsx).trans HS.out.2.1, (hb1.cell (p := ⟨wr.heap.size, 2, none⟩) hsx).trans HS.out.2.2.1, (hb1.cell (p := ⟨wr.heap.size, 3, none⟩) hsx).trans HS.out.2.2.2.1, (hb1.cell (p := ⟨b, off + k' * 4, none⟩) (Nat.lt_trans hbl hsx)).trans HS.out.2.2.2.2.1, (hb1.cell (p := ⟨b, off + k' * 4 + 1, none⟩) (Nat.lt_trans hbl hsx)).trans HS.out.2.2.2.2.2.1, (hb1.cell (p := ⟨b, off + k' * 4 + 2, none⟩) (Nat.lt_trans hbl hsx)).trans HS.out.2.2.2.2.2.2.1, (hb1.cell (p := ⟨b, off + k' * 4 + 3, none⟩) (Nat.lt_trans hbl hsx)).trans HS.out.2.2.2.2.2.2.2⟩) | (go_at_call 49; (with_reducible refine (compareTasks_any _ _ _ _ _ _ _ _ _).mono ?_); rintro e w2 ⟨rfl, hb2⟩; have HS : Hid (w2.cell? ⟨wr.heap.size, 0, none⟩ = some (.int .i64 p0) ∧ w2.cell? ⟨wr.heap.size, 1, none⟩ = some (.int .i64 p1) ∧ w2.cell? ⟨wr.heap.size, 2, none⟩ = some (.int .i64 p2) ∧ w2.cell? ⟨wr.heap.size, 3, none⟩ = some (.int .i64 p3) ∧ w2.cell? ⟨b, off + k' * 4, none⟩ = some (.int .i64 q0) ∧ w2.cell? ⟨b, off + k' * 4 + 1, none⟩ = some (.int .i64 q1) ∧ w2.cell? ⟨b, off + k' * 4 + 2, none⟩ = some (.int .i64 q2) ∧ w2.cell? ⟨b, off + k' * 4 + 3, none⟩ = some (.int .i64 q3)) := hide ⟨(hb2.cell (p := ⟨wr.heap.size, 0, none⟩) (Nat.lt_of_lt_of_le hsx hb1.size)).trans HS.out.1, (hb2.cell (p := ⟨wr.heap.size, 1, none⟩) (Nat.lt_of_lt_of_le hsx hb1.size)).trans HS.out.2.1, (hb2.cell (p := ⟨wr.heap.size, 2, none⟩) (Nat.lt_of_lt_of_le hsx hb1.size)).trans HS.out.2.2.1, (hb2.cell (p := ⟨wr.heap.size, 3, none⟩) (Nat.lt_of_lt_of_le hsx hb1.size)).trans HS.out.2.2.2.1, (hb2.cell (p := ⟨b, off + k' * 4, none⟩) (Nat.lt_of_lt_of_le (Nat.lt_trans hbl hsx) hb1.size)).trans HS.out.2.2.2.2.1, (hb2.cell (p := ⟨b, off + k' * 4 + 1, none⟩) (Nat.lt_of_lt_of_le (Nat.lt_trans hbl hsx) hb1.size)).trans HS.out.2.2.2.2.2.1, (hb2.cell (p := ⟨b, off + k' * 4 + 2, none⟩) (Nat.lt_of_lt_of_le (Nat.lt_trans hbl hsx) hb1.size)).trans HS.out.2.2.2.2.2.2.1, (hb2.cell (p := ⟨b, off + k' * 4 + 3, none⟩) (Nat.lt_of_lt_of_le (Nat.lt_trans hbl hsx) hb1.size)).trans HS.out.2.2.2.2.2.2.2⟩))
            have hbz : Below w.heap.size w w2 := (hbx.trans ((Below.trans (Below.refl _ _).drew hb1).mono hbx.size)).trans (hb2.mono (Nat.le_trans hbx.size hb1.size))
            go_wp2_with fail
            go_ret
            exact ⟨ret_bool E.out.symm, hbz⟩
          | true =>
            have E := hide (okT_more hok.out (okT_s hlen e1 e2))
            have f2 := cmpT_bef l[k'] l[k' + 1]
            rw [e2] at f2
            clear t0 t1 t2 t3 s0 s1 s2 s3 hc hok
            generalize l[k' + 1] = p at *
            obtain ⟨p0, p1, p2, p3⟩ := p
            generalize l[k'] = q at *
            obtain ⟨q0, q1, q2, q3⟩ := q
            dsimp only at c0 c1 c2 c3 d0 d1 d2 d3
            first | rw [Bool.not_false] at f2 | rw [Bool.not_true] at f2
            have hbl : b < wr.heap.size := by have := hbr.size; omega
            have HB := hide hbr
            go_wp2_with fail
            obtain ⟨wx, hwx⟩ : ∃ wx : World, wr.alloc (.cells #[.int .i64 p0, .int .i64 p1, .int .i64 p2, .int .i64 p3] 73) = wx := ⟨_, rfl⟩
            rw [hwx]
            have hbx : Below w.heap.size w wx := by rw [← hwx]; exact hbr.alloc hbr.size _
            have bx : Box wx wr.heap.size [.int .i64 p0, .int .i64 p1, .int .i64 p2, .int .i64 p3] := by rw [← hwx]; exact box_new _ _ _
            have hsx : wr.heap.size < wx.heap.size := by rw [← hwx]; simp
            replace d0 := (World.cell?_alloc_lt wr (.cells #[.int .i64 p0, .int .i64 p1, .int .i64 p2, .int .i64 p3] 73) ⟨b, _, none⟩ hbl).trans d0
            replace d1 := (World.cell?_alloc_lt wr (.cells #[.int .i64 p0, .int .i64 p1, .int .i64 p2, .int .i64 p3] 73) ⟨b, _, none⟩ hbl).trans d1
            replace d2 := (World.cell?_alloc_lt wr (.cells #[.int .i64 p0, .int .i64 p1, .int .i64 p2, .int .i64 p3] 73) ⟨b, _, none⟩ hbl).trans d2
            replace d3 := (World.cell?_alloc_lt wr (.cells #[.int .i64 p0, .int .i64 p1, .int .i64 p2, .int .i64 p3] 73) ⟨b, _, none⟩ hbl).trans d3
            rw [hwx] at d0 d1 d2 d3
            have x0 := bx 0 _ rfl
            have x1 := bx 1 _ rfl
            have x2 := bx 2 _ rfl
            have x3 := bx 3 _ rfl
            clear hwx c0 c1 c2 c3 bx
            have y0 : (0 : Int) ≤ (k' : Int) := by omega
            have y1 : (k' : Int) < (n : Int) := by omega
            have y2 : IntKind.i64.wrap ((k' : Int) + 1 - 1) = (k' : Int) := by rw [Int.add_sub_cancel]; exact IntWalk.i64_in _ ⟨by omega, by omega⟩
            have y3 : IntKind.i64.wrap (k' : Int) = (k' : Int) := IntWalk.i64_in _ ⟨by omega, by omega⟩
            have HS : Hid ((World.drew wx).cell? ⟨wr.heap.size, 0, none⟩ = some (.int .i64 p0) ∧ (World.drew wx).cell? ⟨wr.heap.size, 1, none⟩ = some (.int .i64 p1) ∧ (World.drew wx).cell? ⟨wr.heap.size, 2, none⟩ = some (.int .i64 p2) ∧ (World.drew wx).cell? ⟨wr.heap.size, 3, none⟩ = some (.int .i64 p3) ∧ (World.drew wx).cell? ⟨b, off + k' * 4, none⟩ = some (.int .i64 q0) ∧ (World.drew wx).cell? ⟨b, off + k' * 4 + 1, none⟩ = some (.int .i64 q1) ∧ (World.drew wx).cell? ⟨b, off + k' * 4 + 2, none⟩ = some (.int .i64 q2) ∧ (World.drew wx).cell? ⟨b, off + k' * 4 + 3, none⟩ = some (.int .i64 q3)) := hide ⟨x0, x1, x2, x3, d0, d1, d2, d3⟩
            clear x0 x1 x2 x3 d0 d1 d2 d3
            go_region_held3 (fun W => W.cell? ⟨wr.heap.size, 0, none⟩ = some (.int .i64 p0) ∧ W.cell? ⟨wr.heap.size, 1, none⟩ = some (.int .i64 p1) ∧ W.cell? ⟨wr.heap.size, 2, none⟩ = some (.int .i64 p2) ∧ W.cell? ⟨wr.heap.size, 3, none⟩ = some (.int .i64 p3) ∧ W.cell? ⟨b, off + k' * 4, none⟩ = some (.int .i64 q0) ∧ W.cell? ⟨b, off + k' * 4 + 1, none⟩ = some (.int .i64 q1) ∧ W.cell? ⟨b, off + k' * 4 + 2, none⟩ = some (.int .i64 q2) ∧ W.cell? ⟨b, off + k' * 4 + 3, none⟩ = some (.int .i64 q3)) (with_reducible exact HS.out) (first | (go_at_call 48; (with_reducible refine (taskValid_is e1).mono ?_); rintro e w1 ⟨rfl, hb1⟩; have HS : Hid (w1.cell? ⟨wr.heap.size, 0, none⟩ = some (.int .i64 p0) ∧ w1.cell? ⟨wr.heap.size, 1, none⟩ = some (.int .i64 p1) ∧ w1.cell? ⟨wr.heap.size, 2, none⟩ = some (.int .i64 p2) ∧ w1.cell? ⟨wr.heap.size, 3, none⟩ = some (.int .i64 p3) ∧ w1.cell? ⟨b, off + k' * 4, none⟩ = some (.int .i64 q0) ∧ w1.cell? ⟨b, off + k' * 4 + 1, none⟩ = some (.int .i64 q1) ∧ w1.cell? ⟨b, off + k' * 4 + 2, none⟩ = some (.int .i64 q2) ∧ w1.cell? ⟨b, off + k' * 4 + 3, none⟩ = some (.int .i64 q3)) := hide ⟨(hb1.cell (p := ⟨wr.heap.size, 0, none⟩) hsx).trans HS.out.1, (hb1.cell (p := ⟨wr.heap.size, 1, none⟩) hsx).trans HS.out.2.1, (hb1.cell (p := ⟨wr.heap.size, 2, none⟩) hsx).trans HS.out.2.2.1, (hb1.cell (p := ⟨wr.heap.size, 3, none⟩) hsx).trans HS.out.2.2.2.1, (hb1.cell (p := ⟨b, off + k' * 4, none⟩) (Nat.lt_trans hbl hsx)).trans HS.out.2.2.2.2.1, (hb1.cell (p := ⟨b, off + k' * 4 + 1, none⟩) (Nat.lt_trans hbl hsx)).trans HS.out.2.2.2.2.2.1, (hb1.cell (p := ⟨b, off + k' * 4 + 2, none⟩) (Nat.lt_trans hbl hsx)).trans HS.out.2.2.2.2.2.2.1, (hb1.cell (p := ⟨b, off + k' * 4 + 3, none⟩) (Nat.lt_trans hbl hsx)).trans HS.out.2.2.2.2.2.2.2⟩) | (go_at_call 49; (with_reducible refine (compareTasks_any _ _ _ _ _ _ _ _ _).mono ?_); rintro e w2 ⟨rfl, hb2⟩; have HS : Hid (w2.cell? ⟨wr.heap.size, 0, none⟩ = some (.int .i64 p0) ∧ w2.cell? ⟨wr.heap.size, 1, none⟩ = some (.int .i64 p1) ∧ w2.cell? ⟨wr.heap.size, 2, none⟩ = some (.int .i64 p2) ∧ w2.cell? ⟨wr.heap.size, 3, none⟩ = some (.int .i64 p3) ∧ w2.cell? ⟨b, off + k' * 4, none⟩ = some (.int .i64 q0) ∧ w2.cell? ⟨b, off + k' * 4 + 1, none⟩ = some (.int .i64 q1) ∧ w2.cell? ⟨b, off + k' * 4 + 2, none⟩ = some (.int .i64 q2) ∧ w2.cell? ⟨b, off + k' * 4 + 3, none⟩ = some (.int .i64 q3)) := hide ⟨(hb2.cell (p := ⟨wr.heap.size, 0, none⟩) (Nat.lt_of_lt_of_le hsx hb1.size)).trans HS.out.1, (hb2.cell (p := ⟨wr.heap.size, 1, none⟩) (Nat.lt_of_lt_of_le hsx hb1.size)).trans HS.out.2.1, (hb2.cell (p := ⟨wr.heap.size, 2, none⟩) (Nat.lt_of_lt_of_le hsx hb1.size)).trans HS.out.2.2.1, (hb2.cell (p := ⟨wr.heap.size, 3, none⟩) (Nat.lt_of_lt_of_le hsx hb1.size)).trans HS.out.2.2.2.1, (hb2.cell (p := ⟨b, off + k' * 4, none⟩) (Nat.lt_of_lt_of_le (Nat.lt_trans hbl hsx) hb1.size)).trans HS.out.2.2.2.2.1, (hb2.cell (p := ⟨b, off + k' * 4 + 1, none⟩) (Nat.lt_of_lt_of_le (Nat.lt_trans hbl hsx) hb1.size)).trans HS.out.2.2.2.2.2.1, (hb2.cell (p := ⟨b, off + k' * 4 + 2, none⟩) (Nat.lt_of_lt_of_le (Nat.lt_trans hbl hsx) hb1.size)).trans HS.out.2.2.2.2.2.2.1, (hb2.cell (p := ⟨b, off + k' * 4 + 3, none⟩) (Nat.lt_of_lt_of_le (Nat.lt_trans hbl hsx) hb1.size)).trans HS.out.2.2.2.2.2.2.2⟩))
            have hbz : Below w.heap.size w w2 := (hbx.trans ((Below.trans (Below.refl _ _).drew hb1).mono hbx.size)).trans (hb2.mono (Nat.le_trans hbx.size hb1.size))
            go_wp2_with fail
            go_roundw
            case rel => exact ⟨k' + 1 + 1, by omega, by go_num, E, hbz⟩
            case measure => simp [intOf]; omega
    · obtain rfl : k = n := by omega
      have E := hide (validT_end (fun j hj => hok.out j (by rw [H1.out] at hj; exact hj)))
      rw [H1.out] at E
      clear hok
      by_cases h2 : k ≤ 40
      · go_wp2
        go_ret
        exact ⟨ret_bool (by rw [E.out]; simp [h2]; try omega), hbr⟩
      · go_wp2
        go_ret
        exact ⟨ret_bool (by rw [E.out]; simp [h2]; try omega), hbr⟩

set_option maxRecDepth 100000 in
set_option maxHeartbeats 2000000 in
theorem specValidTasks_any (A : Option Addr) (n c lo hi : Nat) (l : List Tsk) (hn : n ≤ 1048576) (w : World) (hl : l.length = n) (h : Rd w lo hi 4 A n (rTask l)) (hhi : hi ≤ w.heap.size) :
    Calls Try.prog 12 #[.slice A n c] w fun e w' => e = .returned (.bool (validT l)) ∧ Below w.heap.size w w' := by
  go_enter Try.func12, Try.ntmps12
  go_wp2_with fail
  refine (l11Ok_any A n c lo hi l hn _ hl h hhi).mono ?_
  rintro e w1 ⟨rfl, hb1⟩
  go_wp2_with fail
  go_ret
  exact ⟨rfl, hb1⟩

end Go.Proofs.Ytmpccakgpahpoaa
