/-
  STEPS BETWEEN STATES: is a step allowed: the reference's and the program's. No condition but those that each theorem names.
-/
import Derived.Test.YtoklcjpokffocaaNear
namespace Go.Proofs.Ytoklcjpokffocaa
open Go.RowKit
set_option linter.unusedVariables false

theorem tg2_nat (T : List (List Bool)) (i j : Nat) : tg T i j = (T.getD i []).getD j false := by simp [tg]
theorem tab_n {w : World} {lo hi n : Nat} {A : Option Addr} {T : List (List Bool)} (h : RdSS w lo hi A n (rrBool T)) (ok : okT T = true) : n = 24 := by
  have := h.length; rw [rrBool_len, okT_len ok] at this; omega
/-- One row of the table, and what it says. -/
theorem tab_row {w : World} {lo hi : Nat} {A : Option Addr} {T : List (List Bool)} (h : RdSS w lo hi A 24 (rrBool T)) (ok : okT T = true) (a : Nat) (ha : a < 24) :
    ∃ b0 o0 ba oa ca, A = some ⟨b0, o0, none⟩ ∧ b0 < hi ∧ ba < hi ∧ w.cell? ⟨b0, o0 + a, none⟩ = some (.slice (some ⟨ba, oa, none⟩) 24 ca) ∧
      ∀ b : Nat, b < 24 → w.cell? ⟨ba, oa + b, none⟩ = some (.bool (tg T a b)) := by
  obtain ⟨b0, o0, ba, oa, ca, hA, l1, l2, m1, m2, hc, hr⟩ := tab_cells h ok a ha
  exact ⟨b0, o0, ba, oa, ca, hA, l2, m2, hc, fun b hb => by rw [tg2_nat]; exact hr b hb⟩

set_option maxRecDepth 100000 in
set_option maxHeartbeats 2000000 in
theorem clashes_any (A : Option Addr) (n c lo hi : Nat) (T : List (List Bool)) (ok : okT T = true) (a b x y : Int) (ha0 : 0 ≤ a) (ha1 : a ≤ 23) (hb0 : 0 ≤ b) (hb1 : b ≤ 23) (hx0 : 0 ≤ x) (hx1 : x ≤ 23) (hy0 : 0 ≤ y) (hy1 : y ≤ 23) (w : World) (h : RdSS w lo hi A n (rrBool T)) :
    Calls Try.prog 46 #[.slice A n c, .int .i64 a, .int .i64 b, .int .i64 x, .int .i64 y] w fun e w' => e = .returned (.bool (tg T x y || (tg T x b || tg T a y))) ∧ w' = w := by
  obtain ⟨ka, rfl⟩ : ∃ k : Nat, a = k := ⟨a.toNat, by omega⟩
  obtain ⟨kb, rfl⟩ : ∃ k : Nat, b = k := ⟨b.toNat, by omega⟩
  obtain ⟨kx, rfl⟩ : ∃ k : Nat, x = k := ⟨x.toNat, by omega⟩
  obtain ⟨ky, rfl⟩ : ∃ k : Nat, y = k := ⟨y.toNat, by omega⟩
  obtain rfl := tab_n h ok
  obtain ⟨b0, o0, bx, ox, cx, hA, _, _, hcx, hrx⟩ := tab_row h ok kx (by omega)
  obtain ⟨b0', o0', ba, oa, ca, hA', _, _, hca, hra⟩ := tab_row h ok ka (by omega)
  subst hA
  obtain ⟨rfl, rfl⟩ : b0 = b0' ∧ o0 = o0' := by simpa using hA'
  have d1 := hrx ky (by omega)
  have d2 := hrx kb (by omega)
  have d3 := hra ky (by omega)
  clear hrx hra hA' h ok
  generalize tg T kx ky = v1 at *
  generalize tg T kx kb = v2 at *
  generalize tg T ka ky = v3 at *
  cases v1
  case true =>
    go_enter Try.func46, Try.ntmps46
    go_wp2_with fail
    go_ret
    exact ⟨ret_bool (by simp), rfl⟩
  cases v2
  case true =>
    go_enter Try.func46, Try.ntmps46
    go_wp2_with fail
    go_ret
    exact ⟨ret_bool (by simp), rfl⟩
  all_goals
    go_enter Try.func46, Try.ntmps46
    go_wp2_with fail
    go_ret
    exact ⟨ret_bool (by simp), rfl⟩

set_option maxRecDepth 100000 in
set_option maxHeartbeats 2000000 in
theorem safe_any (A A' : Option Addr) (n c c' lo hi lo' hi' : Nat) (T : List (List Bool)) (ok : okT T = true) (a b : Int) (ha0 : 0 ≤ a) (ha1 : a ≤ 23) (hb0 : 0 ≤ b) (hb1 : b ≤ 23) (w : World) (h : RdSS w lo hi A n (rrBool T)) (hs : Rd w lo' hi' 1 A' 2 (rInt64 [a, b])) :
    Calls Try.prog 38 #[.slice A n c, .slice A' 2 c'] w fun e w' => e = .returned (.bool (!(tg T a b))) ∧ Below w.heap.size w w' := by
  obtain ⟨ka, rfl⟩ : ∃ k : Nat, a = k := ⟨a.toNat, by omega⟩
  obtain ⟨kb, rfl⟩ : ∃ k : Nat, b = k := ⟨b.toNat, by omega⟩
  obtain rfl := tab_n h ok
  obtain ⟨b0, o0, ba, oa, ca, hA, _, _, hca, hra⟩ := tab_row h ok ka (by omega)
  subst hA
  obtain ⟨bs, os, rfl, _, _, s0, s1⟩ := st_cells hs
  have d1 := hra kb (by omega)
  clear hra h hs ok
  generalize tg T ka kb = v1 at *
  go_enter Try.func38, Try.ntmps38
  go_wp2_with fail
  go_quiet (fail)
  go_wp2_with fail
  go_ret
  exact ⟨rfl, Joins.below_draws _ _ _⟩

theorem RdSS.drewN {w : World} {lo hi n : Nat} {A : Option Addr} {rs : List (List Value)} (h : RdSS w lo hi A n rs) (k : Nat) : RdSS (w.drewN k) lo hi A n rs := h
set_option maxRecDepth 100000 in
set_option maxHeartbeats 4000000 in
theorem allowed_any (A A1 A2 : Option Addr) (n c' c1 c2 lo hi l1 h1 l2 h2 : Nat) (T : List (List Bool)) (ok : okT T = true) (a b c d : Int) (ha0 : 0 ≤ a) (ha1 : a ≤ 23) (hb0 : 0 ≤ b) (hb1 : b ≤ 23) (hc0 : 0 ≤ c) (hc1 : c ≤ 23) (hd0 : 0 ≤ d) (hd1 : d ≤ 23) (w : World) (h : RdSS w lo hi A n (rrBool T)) (hhi : hi ≤ w.heap.size) (hs : Rd w l1 h1 1 A1 2 (rInt64 [a, b])) (hh1 : h1 ≤ w.heap.size) (ht : Rd w l2 h2 1 A2 2 (rInt64 [c, d])) (hh2 : h2 ≤ w.heap.size) :
    Calls Try.prog 39 #[.slice A n c', .slice A1 2 c1, .slice A2 2 c2] w fun e w' => e = .returned (.bool (stp T a b c d)) ∧ Below w.heap.size w w' := by
  obtain rfl := tab_n h ok
  obtain ⟨bs, os, rfl, _, hbs, s0, s1⟩ := st_cells hs
  obtain ⟨bt, ot, rfl, _, hbt, t0, t1⟩ := st_cells ht
  obtain ⟨g1, g2⟩ := trn_bd a c
  obtain ⟨g3, g4⟩ := trn_bd b d
  have H2 := hide h
  have HO := hide ok
  have HS := hide hs
  clear h ok hs ht
  cases e1 : near a c
  case false =>
    go_enter Try.func39, Try.ntmps39
    go_wp2_with fail
    go_quiet ((go_at_call 31; exact Calls.quiet_of_same (turnBetween_any _ _ (by omega) (by omega) (by omega) (by omega) _)))
    generalize hq : World.drewN w _ = wq
    have hb1 : Below w.heap.size w wq := by rw [← hq]; exact Joins.below_draws _ _ _
    clear hq
    have hs1 := hb1.size
    replace s0 := (hb1.cell (p := ⟨bs, os, none⟩) (by show bs < _; omega)).trans s0
    replace s1 := (hb1.cell (p := ⟨bs, os + 1, none⟩) (by show bs < _; omega)).trans s1
    replace t0 := (hb1.cell (p := ⟨bt, ot, none⟩) (by show bt < _; omega)).trans t0
    replace t1 := (hb1.cell (p := ⟨bt, ot + 1, none⟩) (by show bt < _; omega)).trans t1
    replace H2 := hide (H2.out.below hb1 (by omega))
    replace HS := hide (HS.out.below hb1 (by omega))
    go_wp2_with (first | (go_at_call 32; refine (isTurn2_any _ _).mono ?_; rintro e w' ⟨rfl, hw⟩; obtain rfl := hw.symm; simp only [near_inR, e1]))
    go_ret
    exact ⟨ret_bool (by simp [stp, *]), hb1⟩
  cases e2 : near b d
  case false =>
    go_enter Try.func39, Try.ntmps39
    go_wp2_with fail
    go_quiet ((go_at_call 31; exact Calls.quiet_of_same (turnBetween_any _ _ (by omega) (by omega) (by omega) (by omega) _)))
    generalize hq : World.drewN w _ = wq
    have hb1 : Below w.heap.size w wq := by rw [← hq]; exact Joins.below_draws _ _ _
    clear hq
    have hs1 := hb1.size
    replace s0 := (hb1.cell (p := ⟨bs, os, none⟩) (by show bs < _; omega)).trans s0
    replace s1 := (hb1.cell (p := ⟨bs, os + 1, none⟩) (by show bs < _; omega)).trans s1
    replace t0 := (hb1.cell (p := ⟨bt, ot, none⟩) (by show bt < _; omega)).trans t0
    replace t1 := (hb1.cell (p := ⟨bt, ot + 1, none⟩) (by show bt < _; omega)).trans t1
    replace H2 := hide (H2.out.below hb1 (by omega))
    replace HS := hide (HS.out.below hb1 (by omega))
    go_wp2_with (first | (go_at_call 32; refine (isTurn2_any _ _).mono ?_; rintro e w' ⟨rfl, hw⟩; obtain rfl := hw.symm; simp only [near_inR, e1, e2]))
    go_ret
    exact ⟨ret_bool (by simp [stp, *]), hb1⟩
  have z1 := near_zero ha0 ha1 hc0 hc1
  have z2 := near_zero hb0 hb1 hd0 hd1
  cases e3 : (a == c)
  case true =>
    rw [e3] at z1
    cases e4 : (b == d)
    case true =>
      rw [e4] at z2
      go_enter Try.func39, Try.ntmps39
      go_wp2_with fail
      go_quiet ((go_at_call 31; exact Calls.quiet_of_same (turnBetween_any _ _ (by omega) (by omega) (by omega) (by omega) _)))
      generalize hq : World.drewN w _ = wq
      have hb1 : Below w.heap.size w wq := by rw [← hq]; exact Joins.below_draws _ _ _
      clear hq
      have hs1 := hb1.size
      replace s0 := (hb1.cell (p := ⟨bs, os, none⟩) (by show bs < _; omega)).trans s0
      replace s1 := (hb1.cell (p := ⟨bs, os + 1, none⟩) (by show bs < _; omega)).trans s1
      replace t0 := (hb1.cell (p := ⟨bt, ot, none⟩) (by show bt < _; omega)).trans t0
      replace t1 := (hb1.cell (p := ⟨bt, ot + 1, none⟩) (by show bt < _; omega)).trans t1
      replace H2 := hide (H2.out.below hb1 (by omega))
      replace HS := hide (HS.out.below hb1 (by omega))
      go_wp2_with (first | (go_at_call 32; refine (isTurn2_any _ _).mono ?_; rintro e w' ⟨rfl, hw⟩; obtain rfl := hw.symm; simp only [near_inR, e1, e2]))
      go_ret
      exact ⟨ret_bool (by simp [stp, *]), hb1⟩
    rw [e4] at z2
    cases v1 : tg T a b
    case true =>
      go_enter Try.func39, Try.ntmps39
      go_wp2_with fail
      go_quiet ((go_at_call 31; exact Calls.quiet_of_same (turnBetween_any _ _ (by omega) (by omega) (by omega) (by omega) _)))
      generalize hq : World.drewN w _ = wq
      have hb1 : Below w.heap.size w wq := by rw [← hq]; exact Joins.below_draws _ _ _
      clear hq
      have hs1 := hb1.size
      replace s0 := (hb1.cell (p := ⟨bs, os, none⟩) (by show bs < _; omega)).trans s0
      replace s1 := (hb1.cell (p := ⟨bs, os + 1, none⟩) (by show bs < _; omega)).trans s1
      replace t0 := (hb1.cell (p := ⟨bt, ot, none⟩) (by show bt < _; omega)).trans t0
      replace t1 := (hb1.cell (p := ⟨bt, ot + 1, none⟩) (by show bt < _; omega)).trans t1
      replace H2 := hide (H2.out.below hb1 (by omega))
      replace HS := hide (HS.out.below hb1 (by omega))
      go_wp2_with (first | (go_at_call 32; refine (isTurn2_any _ _).mono ?_; rintro e w' ⟨rfl, hw⟩; obtain rfl := hw.symm; simp only [near_inR, e1, e2]))
      refine (safe_any A _ 24 c' c1 lo hi l1 h1 T HO.out a b (by omega) (by omega) (by omega) (by omega) _ H2.out HS.out).mono ?_
      rintro e w2 ⟨rfl, hb2⟩
      rw [v1]
      have hs2 := hb2.size
      replace s0 := (hb2.cell (p := ⟨bs, os, none⟩) (by show bs < _; omega)).trans s0
      replace s1 := (hb2.cell (p := ⟨bs, os + 1, none⟩) (by show bs < _; omega)).trans s1
      replace t0 := (hb2.cell (p := ⟨bt, ot, none⟩) (by show bt < _; omega)).trans t0
      replace t1 := (hb2.cell (p := ⟨bt, ot + 1, none⟩) (by show bt < _; omega)).trans t1
      replace H2 := hide (H2.out.below hb2 (by omega))
      replace HS := hide (HS.out.below hb2 (by omega))
      go_wp2_with fail
      go_ret
      exact ⟨ret_bool (by simp [stp, *]), hb1.trans (hb2.mono (by omega))⟩
    case false =>
      go_enter Try.func39, Try.ntmps39
      go_wp2_with fail
      go_quiet ((go_at_call 31; exact Calls.quiet_of_same (turnBetween_any _ _ (by omega) (by omega) (by omega) (by omega) _)))
      generalize hq : World.drewN w _ = wq
      have hb1 : Below w.heap.size w wq := by rw [← hq]; exact Joins.below_draws _ _ _
      clear hq
      have hs1 := hb1.size
      replace s0 := (hb1.cell (p := ⟨bs, os, none⟩) (by show bs < _; omega)).trans s0
      replace s1 := (hb1.cell (p := ⟨bs, os + 1, none⟩) (by show bs < _; omega)).trans s1
      replace t0 := (hb1.cell (p := ⟨bt, ot, none⟩) (by show bt < _; omega)).trans t0
      replace t1 := (hb1.cell (p := ⟨bt, ot + 1, none⟩) (by show bt < _; omega)).trans t1
      replace H2 := hide (H2.out.below hb1 (by omega))
      replace HS := hide (HS.out.below hb1 (by omega))
      go_wp2_with (first | (go_at_call 32; refine (isTurn2_any _ _).mono ?_; rintro e w' ⟨rfl, hw⟩; obtain rfl := hw.symm; simp only [near_inR, e1, e2]))
      refine (safe_any A _ 24 c' c1 lo hi l1 h1 T HO.out a b (by omega) (by omega) (by omega) (by omega) _ H2.out HS.out).mono ?_
      rintro e w2 ⟨rfl, hb2⟩
      rw [v1]
      have hs2 := hb2.size
      replace s0 := (hb2.cell (p := ⟨bs, os, none⟩) (by show bs < _; omega)).trans s0
      replace s1 := (hb2.cell (p := ⟨bs, os + 1, none⟩) (by show bs < _; omega)).trans s1
      replace t0 := (hb2.cell (p := ⟨bt, ot, none⟩) (by show bt < _; omega)).trans t0
      replace t1 := (hb2.cell (p := ⟨bt, ot + 1, none⟩) (by show bt < _; omega)).trans t1
      replace H2 := hide (H2.out.below hb2 (by omega))
      replace HS := hide (HS.out.below hb2 (by omega))
      go_wp2_with fail
      go_quiet ((go_at_call 46; exact Calls.quiet_of_same (clashes_any A 24 c' lo hi T HO.out a b c d (by omega) (by omega) (by omega) (by omega) (by omega) (by omega) (by omega) (by omega) _ (RdSS.drewN H2.out _))))
      go_wp2_with fail
      go_ret
      exact ⟨ret_bool (by simp [stp, *]; cases tg T c d <;> cases tg T c b <;> cases tg T a d <;> rfl), (hb1.trans (hb2.mono (by omega))).trans (Joins.below_draws _ _ _)⟩
  rw [e3] at z1
  cases v1 : tg T a b
  case true =>
    go_enter Try.func39, Try.ntmps39
    go_wp2_with fail
    go_quiet ((go_at_call 31; exact Calls.quiet_of_same (turnBetween_any _ _ (by omega) (by omega) (by omega) (by omega) _)))
    generalize hq : World.drewN w _ = wq
    have hb1 : Below w.heap.size w wq := by rw [← hq]; exact Joins.below_draws _ _ _
    clear hq
    have hs1 := hb1.size
    replace s0 := (hb1.cell (p := ⟨bs, os, none⟩) (by show bs < _; omega)).trans s0
    replace s1 := (hb1.cell (p := ⟨bs, os + 1, none⟩) (by show bs < _; omega)).trans s1
    replace t0 := (hb1.cell (p := ⟨bt, ot, none⟩) (by show bt < _; omega)).trans t0
    replace t1 := (hb1.cell (p := ⟨bt, ot + 1, none⟩) (by show bt < _; omega)).trans t1
    replace H2 := hide (H2.out.below hb1 (by omega))
    replace HS := hide (HS.out.below hb1 (by omega))
    go_wp2_with (first | (go_at_call 32; refine (isTurn2_any _ _).mono ?_; rintro e w' ⟨rfl, hw⟩; obtain rfl := hw.symm; simp only [near_inR, e1, e2]))
    refine (safe_any A _ 24 c' c1 lo hi l1 h1 T HO.out a b (by omega) (by omega) (by omega) (by omega) _ H2.out HS.out).mono ?_
    rintro e w2 ⟨rfl, hb2⟩
    rw [v1]
    have hs2 := hb2.size
    replace s0 := (hb2.cell (p := ⟨bs, os, none⟩) (by show bs < _; omega)).trans s0
    replace s1 := (hb2.cell (p := ⟨bs, os + 1, none⟩) (by show bs < _; omega)).trans s1
    replace t0 := (hb2.cell (p := ⟨bt, ot, none⟩) (by show bt < _; omega)).trans t0
    replace t1 := (hb2.cell (p := ⟨bt, ot + 1, none⟩) (by show bt < _; omega)).trans t1
    replace H2 := hide (H2.out.below hb2 (by omega))
    replace HS := hide (HS.out.below hb2 (by omega))
    go_wp2_with fail
    go_ret
    exact ⟨ret_bool (by simp [stp, *]), hb1.trans (hb2.mono (by omega))⟩
  case false =>
    go_enter Try.func39, Try.ntmps39
    go_wp2_with fail
    go_quiet ((go_at_call 31; exact Calls.quiet_of_same (turnBetween_any _ _ (by omega) (by omega) (by omega) (by omega) _)))
    generalize hq : World.drewN w _ = wq
    have hb1 : Below w.heap.size w wq := by rw [← hq]; exact Joins.below_draws _ _ _
    clear hq
    have hs1 := hb1.size
    replace s0 := (hb1.cell (p := ⟨bs, os, none⟩) (by show bs < _; omega)).trans s0
    replace s1 := (hb1.cell (p := ⟨bs, os + 1, none⟩) (by show bs < _; omega)).trans s1
    replace t0 := (hb1.cell (p := ⟨bt, ot, none⟩) (by show bt < _; omega)).trans t0
    replace t1 := (hb1.cell (p := ⟨bt, ot + 1, none⟩) (by show bt < _; omega)).trans t1
    replace H2 := hide (H2.out.below hb1 (by omega))
    replace HS := hide (HS.out.below hb1 (by omega))
    go_wp2_with (first | (go_at_call 32; refine (isTurn2_any _ _).mono ?_; rintro e w' ⟨rfl, hw⟩; obtain rfl := hw.symm; simp only [near_inR, e1, e2]))
    refine (safe_any A _ 24 c' c1 lo hi l1 h1 T HO.out a b (by omega) (by omega) (by omega) (by omega) _ H2.out HS.out).mono ?_
    rintro e w2 ⟨rfl, hb2⟩
    rw [v1]
    have hs2 := hb2.size
    replace s0 := (hb2.cell (p := ⟨bs, os, none⟩) (by show bs < _; omega)).trans s0
    replace s1 := (hb2.cell (p := ⟨bs, os + 1, none⟩) (by show bs < _; omega)).trans s1
    replace t0 := (hb2.cell (p := ⟨bt, ot, none⟩) (by show bt < _; omega)).trans t0
    replace t1 := (hb2.cell (p := ⟨bt, ot + 1, none⟩) (by show bt < _; omega)).trans t1
    replace H2 := hide (H2.out.below hb2 (by omega))
    replace HS := hide (HS.out.below hb2 (by omega))
    go_wp2_with fail
    go_quiet ((go_at_call 46; exact Calls.quiet_of_same (clashes_any A 24 c' lo hi T HO.out a b c d (by omega) (by omega) (by omega) (by omega) (by omega) (by omega) (by omega) (by omega) _ (RdSS.drewN H2.out _))))
    go_wp2_with fail
    go_ret
    exact ⟨ret_bool (by simp [stp, *]; cases tg T c d <;> cases tg T c b <;> cases tg T a d <;> rfl), (hb1.trans (hb2.mono (by omega))).trans (Joins.below_draws _ _ _)⟩

end Go.Proofs.Ytoklcjpokffocaa
