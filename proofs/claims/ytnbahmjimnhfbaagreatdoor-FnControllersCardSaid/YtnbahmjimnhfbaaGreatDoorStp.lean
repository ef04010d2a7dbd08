/-
  STEPS BETWEEN STATES: is a step allowed: the reference's and the program's. No condition but those that each theorem names.
-/
import Derived.Test.YtnbahmjimnhfbaaGreatDoorNear
namespace Go.Proofs.YtnbahmjimnhfbaaGreatDoor
open Go.RowKit
set_option linter.unusedVariables false

theorem tg2_nat (T : List (List Bool)) (i j : Nat) : tg T i j = (T.getD i []).getD j false := by simp [tg]
theorem tab_n {w : World} {lo hi n : Nat} {A : Option Addr} {T : List (List Bool)} (h : RdSS w lo hi A n (rrBool T)) (ok : okT T = true) : n = 24 := by
  have := h.length; rw [rrBool_len, okT_len ok] at this; omega
/-- One row of the table, and what it says. -/
theorem tab_row {w : World} {lo hi : Nat} {A : Option Addr} {T : List (List Bool)} (h : RdSS w lo hi A 24 (rrBool T)) (ok : okT T = true) (a : Nat) (ha : a < 24) :
    ∃ b0 o0 ba oa ca, A = some ⟨b0, o0, none⟩ ∧ b0 < hi ∧ ba < hi ∧ w.cell? ⟨b0, o0 + a, none⟩ = some (.slice (some ⟨ba, oa, none⟩) 24 ca) ∧
      ∀ b : Nat, b < 24 → w.cell? ⟨ba, oa + b, none⟩ = some (.bool (tg T a b)) := by
  obtain ⟨b0, o0, ba, oa, ca, hA, l1, l2, m1, m2, hc, hr⟩ := tab_cells h ok a ha
  exact ⟨b0, o0, ba, oa, ca, hA, l2, m2, hc, fun b hb => by rw [tg2_nat]; exact hr b hb⟩

set_option maxRecDepth 100000 in
set_option maxHeartbeats 2000000 in
theorem clashes_any (A : Option Addr) (n c lo hi : Nat) (T : List (List Bool)) (ok : okT T = true) (a b x y : Int) (ha0 : 0 ≤ a) (ha1 : a ≤ 23) (hb0 : 0 ≤ b) (hb1 : b ≤ 23) (hx0 : 0 ≤ x) (hx1 : x ≤ 23) (hy0 : 0 ≤ y) (hy1 : y ≤ 23) (w : World) (h : RdSS w lo hi A n (rrBool T)) :
    Calls Tryz.prog 29 #[.slice A n c, .int .i64 a, .int .i64 b, .int .i64 x, .int .i64 y] w fun e w' => e = .returned (.bool (tg T x y || (tg T x b || tg T a y))) ∧ w' = w := by
  obtain ⟨ka, rfl⟩ : ∃ k : Nat, a = k := ⟨a.toNat, by omega⟩
  obtain ⟨kb, rfl⟩ : ∃ k : Nat, b = k := ⟨b.toNat, by omega⟩
  obtain ⟨kx, rfl⟩ : ∃ k : Nat, x = k := ⟨x.toNat, by omega⟩
  obtain ⟨ky, rfl⟩ : ∃ k : Nat, y = k := ⟨y.toNat, by omega⟩
  obtain rfl := tab_n h ok
  obtain ⟨b0, o0, bx, ox, cx, hA, _, _, hcx, hrx⟩ := tab_row h ok kx (by omega)
  obtain ⟨b0', o0', ba, oa, ca, hA', _, _, hca, hra⟩ := tab_row h ok ka (by omega)
  subst hA
  obtain ⟨rfl, rfl⟩ : b0 = b0' ∧ o0 = o0' := by simpa using hA'
  have d1 := hrx ky (by omega)
  have d2 := hrx kb (by omega)
  have d3 := hra ky (by omega)
  clear hrx hra hA' h ok
  generalize tg T kx ky = v1 at *
  generalize tg T kx kb = v2 at *
  generalize tg T ka ky = v3 at *
  cases v1
  case true =>
    go_enter Tryz.func29, Tryz.ntmps29
    go_wp2_with fail
    go_ret
    exact ⟨ret_bool (by simp), rfl⟩
  cases v2
  case true =>
    go_enter Tryz.func29, Tryz.ntmps29
    go_wp2_with fail
    go_ret
    exact ⟨ret_bool (by simp), rfl⟩
  all_goals
    go_enter Tryz.func29, Tryz.ntmps29
    go_wp2_with fail
    go_ret
    exact ⟨ret_bool (by simp), rfl⟩

theorem RdSS.drewN {w : World} {lo hi n : Nat} {A : Option Addr} {rs : List (List Value)} (h : RdSS w lo hi A n rs) (k : Nat) : RdSS (w.drewN k) lo hi A n rs := h
end Go.Proofs.YtnbahmjimnhfbaaGreatDoor
