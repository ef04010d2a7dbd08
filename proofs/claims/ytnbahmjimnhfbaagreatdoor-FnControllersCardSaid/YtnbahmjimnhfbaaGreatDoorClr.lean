/-
  IS A DIRECTION CLEAR: the reference's guard and the program's. No condition but those that each theorem names.
-/
import Derived.Test.YtnbahmjimnhfbaaGreatDoorTabOk
import Derived.Test.YtnbahmjimnhfbaaGreatDoorTurn
import Derived.BigQuiet
import Derived.Lib.SmallJoins
namespace Go.Proofs.YtnbahmjimnhfbaaGreatDoor
open Go.RowKit
set_option linter.unusedVariables false

theorem tgc_nat (T : List (List Bool)) (i j : Nat) : tg T i j = (T.getD i []).getD j false := by simp [tg]
/-- What the table says of one crane's direction and the other's. -/
def tgF (T : List (List Bool)) (first : Bool) (d o : Int) : Bool := if first then tg T d o else tg T o d
/-- No direction of the other crane that is near what was seen is in conflict. -/
def clr (T : List (List Bool)) (first : Bool) (d s m : Int) : Bool := (List.range 24).all fun (i : Nat) => !(decide (siz (trn s (i : Int)) ≤ m) && tgF T first d (i : Int))
theorem clr_bad {T : List (List Bool)} {first : Bool} {d s m : Int} (k : Nat) (hk : k < 24) (h1 : siz (trn s k) ≤ m) (h2 : tgF T first d k = true) : clr T first d s m = false := by
  cases e : clr T first d s m with
  | false => rfl
  | true =>
    unfold clr at e
    have := List.all_eq_true.1 e k (List.mem_range.2 hk)
    simp [h1, h2] at this
theorem clr_end {T : List (List Bool)} {first : Bool} {d s m : Int} (h : ∀ k : Nat, k < 24 → siz (trn s k) ≤ m → tgF T first d k = false) : clr T first d s m = true := by
  unfold clr
  rw [List.all_eq_true]
  intro k hk
  by_cases h1 : siz (trn s k) ≤ m
  · simp [h1, h k (List.mem_range.1 hk) h1]
  · simp [h1]
theorem trn_add {s k : Int} (h1 : 0 ≤ s) (h2 : s ≤ 23) (h3 : -11 ≤ k) (h4 : k ≤ 12) : trn s ((s + k) % 24) = k := by unfold trn; split <;> omega
theorem add_trn {s o : Int} (h1 : 0 ≤ s) (h2 : s ≤ 23) (h3 : 0 ≤ o) (h4 : o ≤ 23) : (s + trn s o) % 24 = o := by unfold trn; split <;> omega
theorem clr_bad2 {T : List (List Bool)} {first : Bool} {d s m k : Int} {o : Nat} (h1 : 0 ≤ s) (h2 : s ≤ 23) (hm : m ≤ 11) (h3 : -m ≤ k) (h4 : k ≤ m) (ho : (s + k) % 24 = o) (h : tgF T first d o = true) : clr T first d s m = false := by
  refine clr_bad o (by omega) ?_ h
  rw [← ho, trn_add h1 h2 (by omega) (by omega)]
  unfold siz; split <;> omega
theorem clr_end2 {T : List (List Bool)} {first : Bool} {d s m : Int} (h1 : 0 ≤ s) (h2 : s ≤ 23) (h : ∀ k : Int, -m ≤ k → k ≤ m → tgF T first d ((s + k) % 24) = false) : clr T first d s m = true := by
  refine clr_end fun o ho hs => ?_
  have := h (trn s o) (by unfold siz at hs; split at hs <;> omega) (by unfold siz at hs; split at hs <;> omega)
  rwa [add_trn h1 h2 (by omega) (by omega)] at this

/-- The two cells that are read for one crane's direction and the other's. -/
theorem clr_cells {w : World} {lo hi n : Nat} {A : Option Addr} {T : List (List Bool)} (h : RdSS w lo hi A n (rrBool T)) (ok : okT T = true) (i j : Nat) (hi' : i < 24) (hj : j < 24) :
    ∃ b0 o0 ba oa ca, A = some ⟨b0, o0, none⟩ ∧ b0 < hi ∧ ba < hi ∧ w.cell? ⟨b0, o0 + i, none⟩ = some (.slice (some ⟨ba, oa, none⟩) 24 ca) ∧ w.cell? ⟨ba, oa + j, none⟩ = some (.bool (tg T i j)) := by
  obtain ⟨b0, o0, ba, oa, ca, hA, l1, l2, m1, m2, hc, hr⟩ := tab_cells h ok i hi'
  exact ⟨b0, o0, ba, oa, ca, hA, l2, m2, hc, by rw [tgc_nat]; exact hr j hj⟩

theorem rdss_len {w : World} {lo hi n : Nat} {A : Option Addr} {T : List (List Bool)} (h : RdSS w lo hi A n (rrBool T)) (ok : okT T = true) : n = 24 := by
  have := h.length; rw [rrBool_len, okT_len ok] at this; omega

set_option maxRecDepth 100000 in
set_option maxHeartbeats 4000000 in
theorem l19Guard_any (A : Option Addr) (n c lo hi : Nat) (T : List (List Bool)) (ok : okT T = true) (m : Int) (first : Bool) (d s : Int) (hm0 : 0 ≤ m) (hm1 : m ≤ 11) (hd0 : 0 ≤ d) (hd1 : d ≤ 23) (hs0 : 0 ≤ s) (hs1 : s ≤ 23) (w : World) (h : RdSS w lo hi A n (rrBool T)) (hhi : hi ≤ w.heap.size) :
    Calls Tryz.prog 69 #[.slice A n c, .int .i64 m, .bool first, .int .i64 d, .int .i64 s] w fun e w' => e = .returned (.bool (clr T first d s m)) ∧ Below w.heap.size w w' := by
  obtain ⟨kd, rfl⟩ : ∃ k : Nat, d = k := ⟨d.toNat, by omega⟩
  obtain rfl := rdss_len h ok
  have H2 := hide h
  have HO := hide ok
  clear h ok
  go_enter Tryz.func69, Tryz.ntmps69
  go_wp2_with fail
  go_loopw [11] (fun i wr => ∃ k : Int, -m ≤ k ∧ k ≤ m + 1 ∧ i = .int .i64 k ∧ Hid (∀ j : Int, -m ≤ j → j < k → tgF T first kd ((s + j) % 24) = false) ∧ Below w.heap.size w wr) (fun i _ => (m + 1 - intOf i).toNat)
  case atStart => exact ⟨-m, by omega, by omega, rfl, hide (by intro j h1 h2; omega), Below.refl _ _⟩
  case round =>
    obtain ⟨k, hk0, hk1, rfl, HP, hbr⟩ := hrel
    by_cases hlt : k ≤ m
    · obtain ⟨o, ho, ho2⟩ : ∃ o : Nat, (s + k) % 24 = o ∧ o < 24 := ⟨((s + k) % 24).toNat, by omega, by omega⟩
      have HM := hide ho
      clear ho
      cases first
      · obtain ⟨b0, o0, ba, oa, ca, rfl, l1, l2, c1, c2⟩ := clr_cells H2.out HO.out o kd (by omega) (by omega)
        have d1 := (hbr.cell (p := ⟨b0, o0 + o, none⟩) (by show b0 < _; omega)).trans c1
        have d2 := (hbr.cell (p := ⟨ba, oa + kd, none⟩) (by show ba < _; omega)).trans c2
        clear c1 c2
        have e : tgF T false kd o = tg T o kd := rfl
        have HE := hide e
        clear e
        cases ev : tg T o kd
        all_goals rw [ev] at d2
        all_goals rw [ev] at HE
        all_goals clear ev
        all_goals go_wp2_with (go_at_call 68; refine (l02Mod_any _ (by omega) (by omega) _).mono ?_; rintro e w' ⟨rfl, hw⟩; obtain rfl := hw.symm; rw [HM.out])
        · go_roundw
          case rel => exact ⟨k + 1, by omega, by omega, rfl, hide (fun j h1 h2 => by rcases (show j < k ∨ j = k by omega) with h3 | h3; exact HP.out j h1 h3; subst h3; rw [HM.out]; exact HE.out), hbr⟩
          case measure => simp [intOf]; omega
        · go_ret
          exact ⟨ret_bool (clr_bad2 hs0 hs1 hm1 hk0 hlt HM.out HE.out).symm, hbr⟩
      · obtain ⟨b0, o0, ba, oa, ca, rfl, l1, l2, c1, c2⟩ := clr_cells H2.out HO.out kd o (by omega) (by omega)
        have d1 := (hbr.cell (p := ⟨b0, o0 + kd, none⟩) (by show b0 < _; omega)).trans c1
        have d2 := (hbr.cell (p := ⟨ba, oa + o, none⟩) (by show ba < _; omega)).trans c2
        clear c1 c2
        have e : tgF T true kd o = tg T kd o := rfl
        have HE := hide e
        clear e
        cases ev : tg T kd o
        all_goals rw [ev] at d2
        all_goals rw [ev] at HE
        all_goals clear ev
        all_goals go_wp2_with (go_at_call 68; refine (l02Mod_any _ (by omega) (by omega) _).mono ?_; rintro e w' ⟨rfl, hw⟩; obtain rfl := hw.symm; rw [HM.out])
        · go_roundw
          case rel => exact ⟨k + 1, by omega, by omega, rfl, hide (fun j h1 h2 => by rcases (show j < k ∨ j = k by omega) with h3 | h3; exact HP.out j h1 h3; subst h3; rw [HM.out]; exact HE.out), hbr⟩
          case measure => simp [intOf]; omega
        · go_ret
          exact ⟨ret_bool (clr_bad2 hs0 hs1 hm1 hk0 hlt HM.out HE.out).symm, hbr⟩
    · go_wp2_with fail
      go_ret
      exact ⟨ret_bool (clr_end2 hs0 hs1 (fun j h1 h2 => HP.out j h1 (by omega))).symm, hbr⟩

set_option maxRecDepth 100000 in
set_option maxHeartbeats 4000000 in
theorem clear_any (A : Option Addr) (n c lo hi : Nat) (T : List (List Bool)) (ok : okT T = true) (m : Int) (first : Bool) (d s : Int) (hm0 : 0 ≤ m) (hm1 : m ≤ 11) (hd0 : 0 ≤ d) (hd1 : d ≤ 23) (hs0 : 0 ≤ s) (hs1 : s ≤ 23) (w : World) (h : RdSS w lo hi A n (rrBool T)) (hhi : hi ≤ w.heap.size) :
    Calls Tryz.prog 65 #[.slice A n c, .bool first, .int .i64 d, .int .i64 s, .int .i64 m] w fun e w' => e = .returned (.bool (clr T first d s m)) ∧ Below w.heap.size w w' := by
  obtain ⟨kd, rfl⟩ : ∃ k : Nat, d = k := ⟨d.toNat, by omega⟩
  obtain rfl := rdss_len h ok
  have H2 := hide h
  have HO := hide ok
  clear h ok
  go_enter Tryz.func65, Tryz.ntmps65
  go_wp2_with fail
  go_loopw [12] (fun i wr => ∃ o : Nat, o ≤ 24 ∧ i = .int .i64 o ∧ Hid (∀ j : Nat, j < o → siz (trn s j) ≤ m → tgF T first kd j = false) ∧ Below w.heap.size w wr) (fun i _ => 24 - (intOf i).toNat)
  case atStart => exact ⟨0, by omega, rfl, hide (by intro j h1 h2; omega), Below.refl _ _⟩
  case round =>
    obtain ⟨o, ho, rfl, HP, hbr⟩ := hrel
    by_cases hlt : o < 24
    · obtain ⟨t1, t2⟩ := trn_bd s o
      by_cases hnear : siz (trn s o) ≤ m
      · cases first
        · obtain ⟨b0, o0, ba, oa, ca, rfl, l1, l2, c1, c2⟩ := clr_cells H2.out HO.out o kd (by omega) (by omega)
          have d1 := (hbr.cell (p := ⟨b0, o0 + o, none⟩) (by show b0 < _; omega)).trans c1
          have d2 := (hbr.cell (p := ⟨ba, oa + kd, none⟩) (by show ba < _; omega)).trans c2
          clear c1 c2
          have e : tgF T false kd o = tg T o kd := rfl
          have HE := hide e
          clear e
          cases ev : tg T o kd
          all_goals rw [ev] at d2
          all_goals rw [ev] at HE
          all_goals clear ev
          all_goals go_wp2_with (first | (go_at_call 63; refine (turnBetween_any _ _ (by omega) (by omega) (by omega) (by omega) _).mono ?_; rintro e w' ⟨rfl, hw⟩; obtain rfl := hw.symm) | (go_at_call 75; refine (abs_any _ (by omega) (by omega) _).mono ?_; rintro e w' ⟨rfl, hw⟩; obtain rfl := hw.symm))
          · go_roundw
            case rel => exact ⟨o + 1, by omega, by go_num, hide (fun j h1 h2 => by rcases (show j < o ∨ j = o by omega) with h3 | h3; exact HP.out j h3 h2; subst h3; exact HE.out), hbr⟩
            case measure => simp [intOf]; omega
          · go_ret
            exact ⟨ret_bool (clr_bad o hlt hnear HE.out).symm, hbr⟩
        · obtain ⟨b0, o0, ba, oa, ca, rfl, l1, l2, c1, c2⟩ := clr_cells H2.out HO.out kd o (by omega) (by omega)
          have d1 := (hbr.cell (p := ⟨b0, o0 + kd, none⟩) (by show b0 < _; omega)).trans c1
          have d2 := (hbr.cell (p := ⟨ba, oa + o, none⟩) (by show ba < _; omega)).trans c2
          clear c1 c2
          have e : tgF T true kd o = tg T kd o := rfl
          have HE := hide e
          clear e
          cases ev : tg T kd o
          all_goals rw [ev] at d2
          all_goals rw [ev] at HE
          all_goals clear ev
          all_goals go_wp2_with (first | (go_at_call 63; refine (turnBetween_any _ _ (by omega) (by omega) (by omega) (by omega) _).mono ?_; rintro e w' ⟨rfl, hw⟩; obtain rfl := hw.symm) | (go_at_call 75; refine (abs_any _ (by omega) (by omega) _).mono ?_; rintro e w' ⟨rfl, hw⟩; obtain rfl := hw.symm))
          · go_roundw
            case rel => exact ⟨o + 1, by omega, by go_num, hide (fun j h1 h2 => by rcases (show j < o ∨ j = o by omega) with h3 | h3; exact HP.out j h3 h2; subst h3; exact HE.out), hbr⟩
            case measure => simp [intOf]; omega
          · go_ret
            exact ⟨ret_bool (clr_bad o hlt hnear HE.out).symm, hbr⟩
      · go_wp2_with (first | (go_at_call 63; refine (turnBetween_any _ _ (by omega) (by omega) (by omega) (by omega) _).mono ?_; rintro e w' ⟨rfl, hw⟩; obtain rfl := hw.symm) | (go_at_call 75; refine (abs_any _ (by omega) (by omega) _).mono ?_; rintro e w' ⟨rfl, hw⟩; obtain rfl := hw.symm))
        go_roundw
        case rel => exact ⟨o + 1, by omega, by go_num, hide (fun j h1 h2 => by rcases (show j < o ∨ j = o by omega) with h3 | h3; exact HP.out j h3 h2; subst h3; (exfalso; omega)), hbr⟩
        case measure => simp [intOf]; omega
    · obtain rfl : o = 24 := by omega
      go_wp2_with fail
      go_ret
      exact ⟨ret_bool (clr_end (fun j h1 h2 => HP.out j h1 h2)).symm, hbr⟩

end Go.Proofs.YtnbahmjimnhfbaaGreatDoor
