/-
  STRENGTHS OF THE WIND: contracts for every speed; what is drawn. No condition but those that each theorem names.
-/
import Derived.Test.YtjepeibajnlgeaaSrc
import Derived.Test.YtjepeibajnlgeaaBeau
import Derived.Test.YtjepeibajnlgeaaPress
namespace Go.Proofs.Ytjepeibajnlgeaa
open Go.RowKit
set_option linter.unusedVariables false

def spOk (s : Int) : Prop := 0 ≤ s ∧ s ≤ 600
instance (s : Int) : Decidable (spOk s) := by unfold spOk; infer_instance
def bfN (s : Int) : Int := if spOk s then (bft s 12 : Int) else 0
def bfC (s : Int) : Int := if spOk s then 0 else 2
def prA (s : Int) : Int := if spOk s then s * s / gcdI (s * s) 160 else 0
def prB (s : Int) : Int := if spOk s then 160 / gcdI (s * s) 160 else 0
def foOk (s a : Int) : Prop := (0 ≤ s ∧ s ≤ 600) ∧ (0 ≤ a ∧ a ≤ 100000)
instance (s a : Int) : Decidable (foOk s a) := by unfold foOk; infer_instance
def foN (s a : Int) : Int := if foOk s a then (s * s * a + 16000 - 1) / 16000 else 0
def foC (s a : Int) : Int := if foOk s a then 0 else 2

theorem specBeau_any (s : Int) (w : World) : Calls Try.prog 17 #[.int .i64 s] w fun e w' => e = .returned (.tuple #[.int .i64 (bfN s), .int .i64 (bfC s)]) ∧ Below w.heap.size w w' := by
  by_cases h : spOk s
  · unfold bfN bfC; rw [if_pos h, if_pos h]; exact specBeaufortOf_ok s h.1 h.2 w
  · unfold bfN bfC; rw [if_neg h, if_neg h]; exact specBeaufortOf_bad s h w
theorem specPress_any (s : Int) (w : World) : Calls Try.prog 20 #[.int .i64 s] w fun e w' => e = .returned (.tuple #[.agg #[.int .i64 (prA s), .int .i64 (prB s)], .int .i64 (bfC s)]) ∧ Below w.heap.size w w' := by
  by_cases h : spOk s
  · unfold prA prB bfC; rw [if_pos h, if_pos h, if_pos h]; exact specPressureAt_ok s h.1 h.2 w
  · unfold prA prB bfC; rw [if_neg h, if_neg h, if_neg h]; exact specPressureAt_bad s h w

theorem implBeau_any (s : Int) (w : World) : Calls Try.prog 16 #[.int .i64 s] w fun e w' => e = .returned (.tuple #[.int .i64 (bfN s), .int .i64 (bfC s)]) ∧ Below w.heap.size w w' := by
  by_cases h : spOk s
  · unfold bfN bfC; rw [if_pos h, if_pos h]; exact implBeaufortOf_ok s h.1 h.2 w
  · unfold bfN bfC; rw [if_neg h, if_neg h]; exact implBeaufortOf_bad s h w
theorem implPress_any (s : Int) (w : World) : Calls Try.prog 19 #[.int .i64 s] w fun e w' => e = .returned (.tuple #[.agg #[.int .i64 (prA s), .int .i64 (prB s)], .int .i64 (bfC s)]) ∧ Below w.heap.size w w' := by
  by_cases h : spOk s
  · unfold prA prB bfC; rw [if_pos h, if_pos h, if_pos h]; exact implPressureAt_ok s h.1 h.2 w
  · unfold prA prB bfC; rw [if_neg h, if_neg h, if_neg h]; exact implPressureAt_bad s h w

set_option maxHeartbeats 1000000 in
theorem specForce_any (s a : Int) (w : World) : Calls Try.prog 23 #[.int .i64 s, .int .i64 a] w fun e w' => e = .returned (.tuple #[.int .i64 (foN s a), .int .i64 (foC s a)]) ∧ Below w.heap.size w w' := by
  by_cases h : foOk s a
  · unfold foN foC; rw [if_pos h, if_pos h]
    obtain ⟨⟨h1, h2⟩, h3, h4⟩ := h
    have q1 : 0 ≤ s * s := Int.mul_nonneg h1 h1
    have q2 : s * s ≤ 360000 := Int.mul_le_mul h2 h2 h1 (by omega)
    have q3 : 0 ≤ s * s * a := Int.mul_nonneg q1 h3
    have q4 : s * s * a ≤ 36000000000 := Int.mul_le_mul q2 h4 h3 (by omega)
    go_enter Try.func23, Try.ntmps23
    go_wp2
    go_ret2
    exact ⟨rfl, Below.refl _ _⟩
  · unfold foN foC; rw [if_neg h, if_neg h]
    unfold foOk at h
    by_cases h1 : 0 ≤ s
    all_goals by_cases h2 : s ≤ 600
    all_goals by_cases h3 : 0 ≤ a
    all_goals
      go_enter Try.func23, Try.ntmps23
      go_wp2
      all_goals first
        | (exfalso; simp only [Bool.not_eq_false', decide_eq_true_eq] at *; omega)
        | (go_ret2; exact ⟨rfl, Below.refl _ _⟩)

set_option maxHeartbeats 1000000 in
theorem implForce_any (s a : Int) (w : World) : Calls Try.prog 22 #[.int .i64 s, .int .i64 a] w fun e w' => e = .returned (.tuple #[.int .i64 (foN s a), .int .i64 (foC s a)]) ∧ Below w.heap.size w w' := by
  by_cases h : foOk s a
  · unfold foN foC; rw [if_pos h, if_pos h]
    obtain ⟨⟨h1, h2⟩, h3, h4⟩ := h
    have q1 : 0 ≤ s * s := Int.mul_nonneg h1 h1
    have q2 : s * s ≤ 360000 := Int.mul_le_mul h2 h2 h1 (by omega)
    have q3 : 0 ≤ s * s * a := Int.mul_nonneg q1 h3
    have q4 : s * s * a ≤ 36000000000 := Int.mul_le_mul q2 h4 h3 (by omega)
    go_enter Try.func22, Try.ntmps22
    go_wp2
    go_ret2
    exact ⟨rfl, Below.refl _ _⟩
  · unfold foN foC; rw [if_neg h, if_neg h]
    unfold foOk at h
    by_cases h1 : 0 ≤ s
    all_goals by_cases h2 : s ≤ 600
    all_goals by_cases h3 : 0 ≤ a
    all_goals
      go_enter Try.func22, Try.ntmps22
      go_wp2
      all_goals first
        | (exfalso; simp only [Bool.not_eq_false', decide_eq_true_eq] at *; omega)
        | (go_ret2; exact ⟨rfl, Below.refl _ _⟩)

def DrawnAny (b K : Nat) (w : World) (e : Ending) (w' : World) : Prop := ∃ x : Int, e = .returned (.int .i64 x) ∧ Src w' b K ∧ Tch b (b + 1) w w'
theorem src_alloc_tch {w : World} {b K : Nat} (h : Src w b K) (o : Obj) : Tch b (b + 1) w (w.alloc o) := Tch.of_below ((Below.refl _ _).alloc (Nat.le_refl _) _) _ _
set_option maxRecDepth 100000 in
set_option maxHeartbeats 1000000 in
theorem l21DrawSpeed_any (b K : Nat) (hK : K ≤ 800000) (w : World) (h : Src w b K) : Calls Try.prog 35 #[.pointer (some ⟨b, 0, none⟩)] w (DrawnAny b (K + 6) w) := by
  have H := hide h
  clear h
  go_enter Try.func35, Try.ntmps35
  go_wp2_with fail
  refine (one_any b K 8 (by omega) (by omega) (by omega) _ H.out).mono ?_
  rintro e w1 ⟨y, rfl, hS, ht⟩
  have hl := hS.lt
  cases y
  · go_wp2_with fail
    refine (one_any b (K + 2) 3 (by omega) (by omega) (by omega) _ hS).mono ?_
    rintro e w2 ⟨y2, rfl, hS2, ht2⟩
    have hl2 := hS2.lt
    cases y2
    · go_wp2_with fail
      refine (pick_any b (K + 4) 400 (by omega) (by omega) (by omega) _ hS2).mono ?_
      rintro e w3 ⟨x, rfl, x0, x1, hS3, ht3⟩
      go_wp2_with fail
      go_ret
      exact ⟨x, rfl, hS3, (ht.trans ht2).trans ht3⟩
    · go_wp2_with fail
      refine (among_any b (K + 4) _ 24 _ w2.heap.size (w2.heap.size + 1) [2, 3, 15, 16, 33, 34, 54, 55, 79, 80, 107, 108, 138, 139, 171, 172, 207, 208, 244, 245, 284, 285, 326, 327] (by omega) (by omega) (by omega) _ (hS2.alloc _) (rd_lit w2 #[.int .i64 2, .int .i64 3, .int .i64 15, .int .i64 16, .int .i64 33, .int .i64 34, .int .i64 54, .int .i64 55, .int .i64 79, .int .i64 80, .int .i64 107, .int .i64 108, .int .i64 138, .int .i64 139, .int .i64 171, .int .i64 172, .int .i64 207, .int .i64 208, .int .i64 244, .int .i64 245, .int .i64 284, .int .i64 285, .int .i64 326, .int .i64 327] 2 24 rfl) hl2 (by simp)).mono ?_
      rintro e w3 ⟨x, rfl, _, hS3, ht3⟩
      go_wp2_with fail
      go_ret
      exact ⟨x, rfl, hS3, ((ht.trans ht2).trans (src_alloc_tch hS2 _)).trans ht3⟩
  · go_wp2_with fail
    refine (among_any b (K + 2) _ 5 _ w1.heap.size (w1.heap.size + 1) [(-1), 0, 600, 601, 9223372036854775807] (by omega) (by omega) (by omega) _ (hS.alloc _) (rd_lit w1 #[.int .i64 (-1), .int .i64 0, .int .i64 600, .int .i64 601, .int .i64 9223372036854775807] 2 5 rfl) hl (by simp)).mono ?_
    rintro e w3 ⟨x, rfl, _, hS3, ht3⟩
    go_wp2_with fail
    go_ret
    exact ⟨x, rfl, hS3.mono (by omega), ((ht.trans (src_alloc_tch hS _)).trans ht3)⟩

set_option maxHeartbeats 400000 in
theorem DrawBeaufortOf_any (A : Option Addr) (n c hi : Nat) (bs : List Value) (hn : n ≤ maxLen) (w : World) (h : Rd w 0 hi 1 A n bs) (hhi : hi ≤ w.heap.size) (hv : ∀ v ∈ bs, ∃ x : Int, v = .int .u8 x ∧ 0 ≤ x ∧ x ≤ 255) :
    Calls Try.prog 15 #[.slice A n c] w fun e w' => ∃ x : Int, e = .returned (.int .i64 x) ∧ Below w.heap.size w w' := by
  have H := hide h
  have HV := hide hv
  clear h hv
  go_enter Try.func15, Try.ntmps15
  go_wp2_with fail
  refine (l00From_any A n c hi bs hn _ H.out hhi HV.out).mono ?_
  rintro e w1 ⟨rfl, hS, hb⟩
  go_wp2_with fail
  refine (l21DrawSpeed_any _ 0 (by omega) _ hS).mono ?_
  rintro e w2 ⟨x, rfl, hS2, ht⟩
  go_wp2_with fail
  go_ret
  exact ⟨x, rfl, hb.trans (ht.below (Nat.le_of_lt hS.lt))⟩

set_option maxHeartbeats 400000 in
theorem DrawPressureAt_any (A : Option Addr) (n c hi : Nat) (bs : List Value) (hn : n ≤ maxLen) (w : World) (h : Rd w 0 hi 1 A n bs) (hhi : hi ≤ w.heap.size) (hv : ∀ v ∈ bs, ∃ x : Int, v = .int .u8 x ∧ 0 ≤ x ∧ x ≤ 255) :
    Calls Try.prog 18 #[.slice A n c] w fun e w' => ∃ x : Int, e = .returned (.int .i64 x) ∧ Below w.heap.size w w' := by
  have H := hide h
  have HV := hide hv
  clear h hv
  go_enter Try.func18, Try.ntmps18
  go_wp2_with fail
  refine (l00From_any A n c hi bs hn _ H.out hhi HV.out).mono ?_
  rintro e w1 ⟨rfl, hS, hb⟩
  go_wp2_with fail
  refine (l21DrawSpeed_any _ 0 (by omega) _ hS).mono ?_
  rintro e w2 ⟨x, rfl, hS2, ht⟩
  go_wp2_with fail
  go_ret
  exact ⟨x, rfl, hb.trans (ht.below (Nat.le_of_lt hS.lt))⟩

set_option maxHeartbeats 1000000 in
theorem DrawForceOn_any (A : Option Addr) (n c hi : Nat) (bs : List Value) (hn : n ≤ maxLen) (w : World) (h : Rd w 0 hi 1 A n bs) (hhi : hi ≤ w.heap.size) (hv : ∀ v ∈ bs, ∃ x : Int, v = .int .u8 x ∧ 0 ≤ x ∧ x ≤ 255) :
    Calls Try.prog 21 #[.slice A n c] w fun e w' => ∃ x y : Int, e = .returned (.tuple #[.int .i64 x, .int .i64 y]) ∧ Below w.heap.size w w' := by
  have H := hide h
  have HV := hide hv
  clear h hv
  go_enter Try.func21, Try.ntmps21
  go_wp2_with fail
  refine (l00From_any A n c hi bs hn _ H.out hhi HV.out).mono ?_
  rintro e w1 ⟨rfl, hS, hb⟩
  have hl := hS.lt
  go_wp2_with fail
  refine (l21DrawSpeed_any _ 0 (by omega) _ hS).mono ?_
  rintro e w2 ⟨x, rfl, hS2, ht⟩
  have hl2 := hS2.lt
  go_wp2_with fail
  refine (one_any _ _ 8 (by omega) (by omega) (by omega) _ hS2).mono ?_
  rintro e w3 ⟨y, rfl, hS3, ht3⟩
  have hl3 := hS3.lt
  have hB := hb.trans ((ht.trans ht3).below (Nat.le_of_lt hl))
  cases y
  · go_wp2_with fail
    refine (pick_any _ _ 2000 (by omega) (by omega) (by omega) _ hS3).mono ?_
    rintro e w4 ⟨z, rfl, _, _, hS4, ht4⟩
    go_wp2_with fail
    go_ret2
    exact ⟨_, _, rfl, hB.trans (ht4.below (Nat.le_of_lt hl3))⟩
  · go_wp2_with fail
    refine (among_any _ _ _ 4 _ w3.heap.size (w3.heap.size + 1) [(-1), 0, 100000, 100001] (by omega) (by omega) (by omega) _ (hS3.alloc _) (rd_lit w3 #[.int .i64 (-1), .int .i64 0, .int .i64 100000, .int .i64 100001] 2 4 rfl) hl3 (by simp)).mono ?_
    rintro e w4 ⟨z, rfl, _, hS4, ht4⟩
    go_wp2_with fail
    go_ret2
    exact ⟨_, _, rfl, hB.trans (((src_alloc_tch hS3 _).trans ht4).below (Nat.le_of_lt hl3))⟩

theorem f6big_no (A : Option Addr) (n c : Nat) (hn : n ≤ 4096) (w : World) : Calls Try.prog 14 #[.slice A n c] w fun e w' => e = .returned (.bool false) ∧ w = w' := by
  go_enter Try.func14, Try.ntmps14
  go_wp2
  go_ret
  exact ⟨ret_bool (by simp; omega), rfl⟩
theorem f6big_yes (A : Option Addr) (n c : Nat) (hn : 4096 < n) (w : World) : Calls Try.prog 14 #[.slice A n c] w fun e w' => e = .returned (.bool true) ∧ w = w' := by
  go_enter Try.func14, Try.ntmps14
  go_wp2
  go_ret
  exact ⟨ret_bool (by simp; omega), rfl⟩

end Go.Proofs.Ytjepeibajnlgeaa
