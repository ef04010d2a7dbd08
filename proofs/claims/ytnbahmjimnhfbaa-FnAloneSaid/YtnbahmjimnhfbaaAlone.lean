/-
  ONE CRANE TURNS ALONE: the reference's and the program's AloneRoute. No condition but those that each theorem names.
-/
import Derived.Test.YtnbahmjimnhfbaaStp
namespace Go.Proofs.Ytnbahmjimnhfbaa
open Go.RowKit
set_option linter.unusedVariables false

/-- How many steps in the sense s lead from a to t. -/
def alM (a t s : Int) : Nat := ((s * (t - a)) % 24).toNat
/-- The steps of a crane that turns alone, or -1 if there is a conflict on the way. -/
def alV (T : List (List Bool)) (a b t s : Int) : Int := if (List.range (alM a t s)).any (fun (i : Nat) => tg T ((a + s * ((i : Int) + 1)) % 24) b) then -1 else alM a t s
theorem alM_lt (a t s : Int) : alM a t s < 24 := by unfold alM; omega
theorem alV_bad {T : List (List Bool)} {a b t s : Int} (k : Nat) (hk : k < alM a t s) (h : tg T ((a + s * ((k : Int) + 1)) % 24) b = true) : alV T a b t s = -1 := by
  unfold alV
  rw [if_pos]
  rw [List.any_eq_true]
  exact ⟨k, List.mem_range.2 hk, h⟩
theorem alV_end {T : List (List Bool)} {a b t s : Int} (h : ∀ k : Nat, k < alM a t s → tg T ((a + s * ((k : Int) + 1)) % 24) b = false) : alV T a b t s = alM a t s := by
  unfold alV
  rw [if_neg]
  rw [List.any_eq_true]
  rintro ⟨k, hk, h2⟩
  rw [h k (List.mem_range.1 hk)] at h2
  cases h2
theorem alV_bd (T : List (List Bool)) (a b t s : Int) : -1 ≤ alV T a b t s ∧ alV T a b t s < 24 := by
  have := alM_lt a t s
  unfold alV; split <;> omega
theorem al_stop {a t s : Int} {k : Nat} (hs : s = 1 ∨ s = -1) (ha0 : 0 ≤ a) (ha1 : a ≤ 23) (ht0 : 0 ≤ t) (ht1 : t ≤ 23) (hk : k ≤ alM a t s) : ((a + s * (k : Int)) % 24 = t) ↔ k = alM a t s := by
  unfold alM at *
  rcases hs with rfl | rfl <;> omega
theorem al_next {a s : Int} {k : Nat} (hs : s = 1 ∨ s = -1) : ((a + s * (k : Int)) % 24 + s) % 24 = (a + s * ((k : Int) + 1)) % 24 := by
  rcases hs with rfl | rfl <;> omega
theorem al_zero {a s : Int} (ha0 : 0 ≤ a) (ha1 : a ≤ 23) : (a + s * ((0 : Nat) : Int)) % 24 = a := by
  rw [show s * ((0 : Nat) : Int) = 0 by simp]; omega
theorem neq_of {a b : Nat} (h : a ≠ b) : ((a : Int) != (b : Int)) = true := by simp; omega
theorem neq_no (a : Int) : (a != a) = false := by simp

set_option maxRecDepth 100000 in
set_option maxHeartbeats 4000000 in
theorem alone_any (A : Option Addr) (n c' lo hi : Nat) (A1 : Option Addr) (c1 l1 h1 : Nat) (T : List (List Bool)) (ok : okT T = true) (a b t s : Int) (ha0 : 0 ≤ a) (ha1 : a ≤ 23) (hb0 : 0 ≤ b) (hb1 : b ≤ 23) (ht0 : 0 ≤ t) (ht1 : t ≤ 23) (hs : s = 1 ∨ s = -1) (w : World) (h : RdSS w lo hi A n (rrBool T)) (hhi : hi ≤ w.heap.size) (hs1 : Rd w l1 h1 1 A1 2 (rInt64 [a, b])) (hh1 : h1 ≤ w.heap.size) :
    Calls Try.prog 63 #[.slice A n c', .slice A1 2 c1, .int .i64 t, .int .i64 s] w fun e w' => e = .returned (.int .i64 (alV T a b t s)) ∧ Below w.heap.size w w' := by
  obtain rfl := tab_n h ok
  obtain ⟨kb, rfl⟩ : ∃ k : Nat, b = k := ⟨b.toNat, by omega⟩
  obtain ⟨kt, rfl⟩ : ∃ k : Nat, t = k := ⟨t.toNat, by omega⟩
  have hs0 : -1 ≤ s := by omega
  have hs1' : s ≤ 1 := by omega
  have HS := hide hs
  have H2 := hide h
  have HO := hide ok
  obtain ⟨bs, os, rfl, _, hbs, s0, s1⟩ := st_cells hs1
  clear h ok hs hs1
  go_enter Try.func63, Try.ntmps63
  go_wp2_with fail
  go_loopw [9, 10] (fun n' a' wr => ∃ k p : Nat, k ≤ alM a kt s ∧ p < 24 ∧ Hid ((a + s * (k : Int)) % 24 = p) ∧ a' = .int .i64 p ∧ n' = .int .i64 k ∧ Hid (∀ i : Nat, i < k → tg T ((a + s * ((i : Int) + 1)) % 24) kb = false) ∧ Below w.heap.size w wr) (fun n' a' _ => alM a kt s - (intOf n').toNat)
  case atStart => exact ⟨0, a.toNat, by omega, by omega, hide (by rw [al_zero ha0 ha1]; omega), vint (by omega), rfl, hide (by intro i hi; omega), Below.refl _ _⟩
  case round =>
    obtain ⟨k, p, hk, hp, HP, rfl, rfl, HA, hbr⟩ := hrel
    have hml := alM_lt a kt s
    have hsz := hbr.size
    have e0 := (hbr.cell (p := ⟨bs, os, none⟩) (by show bs < _; omega)).trans s0
    have e1 := (hbr.cell (p := ⟨bs, os + 1, none⟩) (by show bs < _; omega)).trans s1
    by_cases hlt : k = alM a kt s
    · have hpt : p = kt := by have := (al_stop HS.out ha0 ha1 ht0 ht1 hk).2 hlt; rw [HP.out] at this; omega
      have HE := hide hlt
      clear hlt
      subst hpt
      have hnn := neq_no (p : Int)
      go_wp2_with fail
      go_ret
      exact ⟨ret_int (by rw [alV_end (fun i hi => HA.out i (by rw [HE.out]; exact hi)), ← HE.out]), hbr⟩
    · have hpt : p ≠ kt := by
        intro e
        refine hlt ((al_stop HS.out ha0 ha1 ht0 ht1 hk).1 ?_)
        rw [HP.out, e]
      have hnn := neq_of hpt
      obtain ⟨q, hq, hq2⟩ : ∃ q : Nat, tur p s = q ∧ q < 24 := ⟨(((p : Int) + s) % 24).toNat, by unfold tur; omega, by omega⟩
      have hqn : (a + s * ((k : Int) + 1)) % 24 = q := by
        rw [← al_next HS.out, HP.out]; exact hq
      have HQN := hide hqn
      clear hqn
      obtain ⟨b0, o0, bx, ox, cx, rfl, l1, l2, hcx, hrx⟩ := tab_row H2.out HO.out q hq2
      have d0 := (hbr.cell (p := ⟨b0, o0 + q, none⟩) (by show b0 < _; omega)).trans hcx
      have d1 := (hbr.cell (p := ⟨bx, ox + kb, none⟩) (by show bx < _; omega)).trans (hrx kb (by omega))
      clear hcx hrx
      cases v1 : tg T q kb
      · rw [v1] at d1
        have HV := hide v1
        clear v1
        go_wp2_with (go_at_call 94; refine (turned_any _ _ (by omega) (by omega) (by omega) (by omega) _).mono ?_; rintro e w' ⟨rfl, hw⟩; obtain rfl := hw.symm; rw [hq])
        go_quiet (fail)
        generalize hq2 : World.drewN wr _ = wq
        replace hbr : Below w.heap.size w wq := hbr.trans (by rw [← hq2]; exact Joins.below_draws _ _ _)
        clear hq2
        go_wp2_with fail
        go_roundw
        case rel =>
          exact ⟨k + 1, q, by omega, hq2, hide (by rw [← HQN.out]; simp), rfl, by go_num, hide (fun i hi => by
            by_cases e : i = k
            · subst e; rw [HQN.out]; exact HV.out
            · exact HA.out i (by omega)), hbr⟩
        case measure => simp [intOf]; omega
      · rw [v1] at d1
        have HV := hide v1
        clear v1
        go_wp2_with (go_at_call 94; refine (turned_any _ _ (by omega) (by omega) (by omega) (by omega) _).mono ?_; rintro e w' ⟨rfl, hw⟩; obtain rfl := hw.symm; rw [hq])
        go_quiet (fail)
        generalize hq2 : World.drewN wr _ = wq
        replace hbr : Below w.heap.size w wq := hbr.trans (by rw [← hq2]; exact Joins.below_draws _ _ _)
        clear hq2
        go_wp2_with fail
        go_ret
        exact ⟨ret_int (alV_bad k (by omega) (by rw [HQN.out]; exact HV.out)).symm, hbr⟩

/-- Where the least one stands that is not negative. -/
def lsV (x y : Int) : Int := if x < 0 then (if y < 0 then -1 else 1) else if y < 0 then 0 else if y < x then 1 else 0
set_option maxRecDepth 100000 in
set_option maxHeartbeats 4000000 in
theorem least2_any (b off c : Nat) (x y : Int) (w : World) (c0 : w.cell? ⟨b, off, none⟩ = some (.int .i64 x)) (c1 : w.cell? ⟨b, off + 1, none⟩ = some (.int .i64 y)) :
    Calls Try.prog 62 #[.slice (some ⟨b, off, none⟩) 2 c] w fun e w' => e = .returned (.int .i64 (lsV x y)) ∧ w' = w := by
  obtain ⟨r1, hr1⟩ : ∃ r : Int, (if x < 0 then -1 else 0) = r := ⟨_, rfl⟩
  have HR1 := hide hr1
  clear hr1
  go_enter Try.func62, Try.ntmps62
  go_wp2_with fail
  go_loop [3, 8] (fun v i => (i = .int .i64 0 ∧ v = .int .i64 (-1)) ∨ (i = .int .i64 1 ∧ v = .int .i64 (if x < 0 then -1 else 0)) ∨ (i = .int .i64 2 ∧ v = .int .i64 (lsV x y))) (fun _ i => 2 - (intOf i).toNat)
  case atStart => exact Or.inl ⟨rfl, rfl⟩
  case round =>
    rcases hrel with ⟨rfl, rfl⟩ | ⟨rfl, rfl⟩ | ⟨rfl, rfl⟩
    · by_cases hx : x < 0
      · have g1 : decide (x < 0) = true := by simpa using hx
        go_wp2_with fail
        go_round
        case rel => exact Or.inr (Or.inl ⟨rfl, by simp [hx]⟩)
        case measure => simp [intOf]
      · have g1 : decide (x < 0) = false := by simpa using hx
        go_wp2_with fail
        go_round
        case rel => exact Or.inr (Or.inl ⟨rfl, by simp [hx]⟩)
        case measure => simp [intOf]
    · by_cases hx : x < 0
      · rw [if_pos hx]
        by_cases hy : y < 0
        all_goals
          go_wp2_with fail
          go_round
          case rel => exact Or.inr (Or.inr ⟨rfl, by simp [lsV, hx, hy]⟩)
          case measure => simp [intOf]
      · rw [if_neg hx]
        by_cases hy : y < 0
        · skip
          go_wp2_with fail
          go_round
          case rel => exact Or.inr (Or.inr ⟨rfl, by simp [lsV, hx, hy]⟩)
          case measure => simp [intOf]
        · by_cases hxy : y < x
          all_goals
            go_wp2_with fail
            go_round
            case rel => exact Or.inr (Or.inr ⟨rfl, by simp [lsV, hx, hy, hxy]⟩)
            case measure => simp [intOf]
    · go_wp2_with fail
      go_ret
      exact ⟨rfl, rfl⟩

end Go.Proofs.Ytnbahmjimnhfbaa
