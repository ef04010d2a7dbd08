/-
  THE CODES OF A TABLE AND STATES: the reference's l17Code and l17Two, the program's stateCode. No condition but those that each theorem names.
-/
import Derived.Test.YtnbahmjimnhfbaaDoorStp
import Derived.Test.YtnbahmjimnhfbaaDoorFamSInt64
namespace Go.Proofs.YtnbahmjimnhfbaaDoor
open Go.RowKit
set_option linter.unusedVariables false

/-- Does the table say that a state is in conflict? -/
def hit (T : List (List Bool)) (l : List Int) : Bool := tg T (l.getD 0 0) (l.getD 1 0)
/-- The code of a table and states. -/
def codeL (T : List (List Bool)) (ls : List (List Int)) : Int := if okT T then (if ls.all stV then (if ls.any (hit T) then 10 else 0) else 2) else 8
theorem codeL_tab {T : List (List Bool)} {ls : List (List Int)} (h : okT T = false) : codeL T ls = 8 := by simp [codeL, h]
theorem codeL_st {T : List (List Bool)} {ls : List (List Int)} (h : okT T = true) (k : Nat) (hk : k < ls.length) (hs : stV (ls.getD k []) = false) : codeL T ls = 2 := by
  unfold codeL
  rw [if_pos h, if_neg]
  intro e
  have := List.all_eq_true.1 e ls[k] (List.getElem_mem hk)
  rw [show ls.getD k [] = ls[k] by simp [List.getD, hk]] at hs
  rw [hs] at this; cases this
theorem codeL_hit {T : List (List Bool)} {ls : List (List Int)} (h : okT T = true) (hs : ls.all stV = true) (k : Nat) (hk : k < ls.length) (hh : hit T (ls.getD k []) = true) : codeL T ls = 10 := by
  unfold codeL
  rw [if_pos h, if_pos hs, if_pos]
  rw [List.any_eq_true]
  exact ⟨ls[k], List.getElem_mem hk, by rw [show ls.getD k [] = ls[k] by simp [List.getD, hk]] at hh; exact hh⟩
theorem codeL_ok {T : List (List Bool)} {ls : List (List Int)} (h : okT T = true) (hs : ls.all stV = true) (hh : ∀ k, k < ls.length → hit T (ls.getD k []) = false) : codeL T ls = 0 := by
  unfold codeL
  rw [if_pos h, if_pos hs, if_neg]
  rw [List.any_eq_true]
  rintro ⟨l, hl, h2⟩
  obtain ⟨k, hk, rfl⟩ := List.mem_iff_getElem.1 hl
  have := hh k hk
  rw [show ls.getD k [] = ls[k] by simp [List.getD, hk]] at this
  rw [this] at h2; cases h2
theorem all_st {ls : List (List Int)} (h : ∀ k, k < ls.length → stV (ls.getD k []) = true) : ls.all stV = true := by
  rw [List.all_eq_true]
  intro l hl
  obtain ⟨k, hk, rfl⟩ := List.mem_iff_getElem.1 hl
  have := h k hk
  rwa [show ls.getD k [] = ls[k] by simp [List.getD, hk]] at this
theorem codeL_zero {T : List (List Bool)} {ls : List (List Int)} (h : codeL T ls = 0) : okT T = true ∧ (∀ l ∈ ls, stV l = true ∧ hit T l = false) := by
  unfold codeL at h
  split at h
  · rename_i h1
    split at h
    · rename_i h2
      split at h
      · omega
      · rename_i h3
        refine ⟨h1, fun l hl => ⟨List.all_eq_true.1 h2 l hl, ?_⟩⟩
        cases e : hit T l with
        | false => rfl
        | true => exact absurd (List.any_eq_true.2 ⟨l, hl, e⟩) h3
    · omega
  · omega
/-- A literal of rows that has just been laid. -/
theorem rdss_lit1 {w : World} {hi : Nat} {A : Option Addr} {n c : Nat} {l : List Int} (t : TypeId) (hl : l.length = n) (hm : n ≤ maxLen) (h : Rd w 0 hi 1 A n (rInt64 l)) (hhi : hi ≤ w.heap.size) :
    RdSS (w.alloc (.cells #[.slice A n c] t)) 0 (w.heap.size + 1) (some ⟨w.heap.size, 0, none⟩) 1 (rrInt64 [l]) := by
  have hb : Below w.heap.size w (w.alloc (.cells #[.slice A n c] t)) := (Below.refl _ _).alloc (Nat.le_refl _) _
  refine ⟨[.slice A n c], ⟨rfl, fun _ => ⟨w.heap.size, 0, rfl, Nat.zero_le _, Nat.lt_succ_self _, fun j u hu => ?_⟩⟩, rfl, fun i hi' => ?_⟩
  · rw [Nat.zero_add, new_cell]; simpa using hu
  · obtain rfl : i = 0 := by simp [rrInt64] at hi'; omega
    exact ⟨A, n, c, rfl, hm, (h.below hb hhi).mono (Nat.le_refl _) (by omega)⟩
theorem rdss_lit2 {w : World} {hi hi' : Nat} {A A' : Option Addr} {n n' c c' : Nat} {l l' : List Int} (t : TypeId) (hl : l.length = n) (hm : n ≤ maxLen) (h : Rd w 0 hi 1 A n (rInt64 l)) (hhi : hi ≤ w.heap.size) (hl' : l'.length = n') (hm' : n' ≤ maxLen) (h' : Rd w 0 hi' 1 A' n' (rInt64 l')) (hhi' : hi' ≤ w.heap.size) :
    RdSS (w.alloc (.cells #[.slice A n c, .slice A' n' c'] t)) 0 (w.heap.size + 1) (some ⟨w.heap.size, 0, none⟩) 2 (rrInt64 [l, l']) := by
  have hb : Below w.heap.size w (w.alloc (.cells #[.slice A n c, .slice A' n' c'] t)) := (Below.refl _ _).alloc (Nat.le_refl _) _
  refine ⟨[.slice A n c, .slice A' n' c'], ⟨rfl, fun _ => ⟨w.heap.size, 0, rfl, Nat.zero_le _, Nat.lt_succ_self _, fun j u hu => ?_⟩⟩, rfl, fun i hi'' => ?_⟩
  · rw [Nat.zero_add, new_cell]; simpa using hu
  · have hi2 : i < 2 := by simpa [rrInt64] using hi''
    match i, hi2 with
    | 0, _ => exact ⟨A, n, c, rfl, hm, (h.below hb hhi).mono (Nat.le_refl _) (by omega)⟩
    | 1, _ => exact ⟨A', n', c', rfl, hm', (h'.below hb hhi').mono (Nat.le_refl _) (by omega)⟩
theorem hit_pair (T : List (List Bool)) (x y : Int) : hit T [x, y] = tg T x y := rfl

set_option maxRecDepth 100000 in
set_option maxHeartbeats 4000000 in
theorem l17Code_any (A A1 : Option Addr) (n c lo hi n1 c1 l1 h1 : Nat) (T : List (List Bool)) (l : List Int) (hm : n ≤ maxLen) (hl : l.length = n1) (hm1 : n1 ≤ maxLen) (w : World) (h : RdSS w lo hi A n (rrBool T)) (hr : Rd w l1 h1 1 A1 n1 (rInt64 l)) :
    Calls Tryd.prog 32 #[.slice A n c, .slice A1 n1 c1] w fun e w' => e = .returned (.int .i64 (codeL T [l])) ∧ Below w.heap.size w w' := by
  have H2 := hide h
  have HR := hide hr
  have HL := hide hl
  clear h hr hl
  cases e0 : okT T
  case false =>
    have HV := hide (codeL_tab (ls := [l]) e0)
    have HT := hide e0
    clear e0
    go_enter Tryd.func32, Tryd.ntmps32
    go_wp2_with (first | (go_at_call 29; refine (l15Ok_any _ _ c lo hi T hm _ H2.out).mono ?_; rintro e w' ⟨rfl, hw⟩; obtain rfl := hw.symm; rw [HT.out]) | (go_at_call 30; refine (l17State_any _ _ c1 l1 h1 l HL.out hm1 _ HR.out).mono ?_; rintro e w' ⟨rfl, hw⟩; obtain rfl := hw.symm; rw [HS.out]))
    go_ret
    exact ⟨ret_int (by rw [HV.out]), Below.refl _ _⟩
  have HT := hide e0
  cases e1 : stV l
  case false =>
    have HV := hide (codeL_st (ls := [l]) e0 0 (by simp) e1)
    have HS := hide e1
    clear e0 e1
    go_enter Tryd.func32, Tryd.ntmps32
    go_wp2_with (first | (go_at_call 29; refine (l15Ok_any _ _ c lo hi T hm _ H2.out).mono ?_; rintro e w' ⟨rfl, hw⟩; obtain rfl := hw.symm; rw [HT.out]) | (go_at_call 30; refine (l17State_any _ _ c1 l1 h1 l HL.out hm1 _ HR.out).mono ?_; rintro e w' ⟨rfl, hw⟩; obtain rfl := hw.symm; rw [HS.out]))
    go_ret
    exact ⟨ret_int (by rw [HV.out]), Below.refl _ _⟩
  have HS := hide e1
  obtain ⟨x, y, rfl, hx0, hx1, hy0, hy1⟩ := stV_two e1
  obtain rfl : n1 = 2 := HL.out.symm
  obtain rfl := tab_n H2.out HT.out
  obtain ⟨bs, os, rfl, _, hbs, s0, s1⟩ := st_cells HR.out
  obtain ⟨kx, rfl⟩ : ∃ k : Nat, x = k := ⟨x.toNat, by omega⟩
  obtain ⟨ky, rfl⟩ : ∃ k : Nat, y = k := ⟨y.toNat, by omega⟩
  obtain ⟨b0, o0, bx, ox, cx, hA, _, _, hcx, hrx⟩ := tab_row H2.out HT.out kx (by omega)
  subst hA
  have d1 := hrx ky (by omega)
  have HAL : Hid (([[(kx : Int), (ky : Int)]] : List (List Int)).all stV = true) := hide (by simp [e1])
  have HD : Hid (okT T = true) := HT
  clear hrx e0 e1
  cases v1 : tg T kx ky
  all_goals rw [v1] at d1
  · have HV := hide (codeL_ok (ls := [[(kx : Int), (ky : Int)]]) HD.out HAL.out (fun k hk => by obtain rfl : k = 0 := (by simpa using hk); exact v1))
    clear v1
    go_enter Tryd.func32, Tryd.ntmps32
    go_wp2_with (first | (go_at_call 29; refine (l15Ok_any _ _ c lo hi T hm _ H2.out).mono ?_; rintro e w' ⟨rfl, hw⟩; obtain rfl := hw.symm; rw [HT.out]) | (go_at_call 30; refine (l17State_any _ _ c1 l1 h1 _ HL.out hm1 _ HR.out).mono ?_; rintro e w' ⟨rfl, hw⟩; obtain rfl := hw.symm; rw [HS.out]))
    go_quiet (fail)
    go_wp2_with fail
    go_ret
    exact ⟨ret_int (by rw [HV.out]), Joins.below_draws _ _ _⟩
  · have HV := hide (codeL_hit (ls := [[(kx : Int), (ky : Int)]]) HD.out HAL.out 0 (by simp) v1)
    clear v1
    go_enter Tryd.func32, Tryd.ntmps32
    go_wp2_with (first | (go_at_call 29; refine (l15Ok_any _ _ c lo hi T hm _ H2.out).mono ?_; rintro e w' ⟨rfl, hw⟩; obtain rfl := hw.symm; rw [HT.out]) | (go_at_call 30; refine (l17State_any _ _ c1 l1 h1 _ HL.out hm1 _ HR.out).mono ?_; rintro e w' ⟨rfl, hw⟩; obtain rfl := hw.symm; rw [HS.out]))
    go_quiet (fail)
    go_wp2_with fail
    go_ret
    exact ⟨ret_int (by rw [HV.out]), Joins.below_draws _ _ _⟩

set_option maxRecDepth 100000 in
set_option maxHeartbeats 4000000 in
theorem stateCode_any (A A1 : Option Addr) (n c lo hi n1 c1 l1 h1 : Nat) (T : List (List Bool)) (ls : List (List Int)) (hm : n ≤ maxLen) (hm1 : n1 ≤ 1000) (w : World) (h : RdSS w lo hi A n (rrBool T)) (hhi : hi ≤ w.heap.size) (hr : RdSS w l1 h1 A1 n1 (rrInt64 ls)) (hh1 : h1 ≤ w.heap.size) :
    Calls Tryd.prog 19 #[.slice A n c, .slice A1 n1 c1] w fun e w' => e = .returned (.int .i64 (codeL T ls)) ∧ Below w.heap.size w w' := by
  have hl : ls.length = n1 := by have := hr.length; rw [rrInt64_len] at this; exact this
  have H2 := hide h
  have HR := hide hr
  have HL := hide hl
  clear h hr hl
  cases e0 : okT T
  case false =>
    have HV := hide (codeL_tab (ls := ls) e0)
    have HT := hide e0
    clear e0
    go_enter Tryd.func19, Tryd.ntmps19
    go_wp2_with (go_at_call 22; refine (implValidTable_any _ _ c lo hi T hm _ H2.out).mono ?_; rintro e w' ⟨rfl, hw⟩; obtain rfl := hw.symm; rw [HT.out])
    go_ret
    exact ⟨ret_int (by rw [HV.out]), Below.refl _ _⟩
  have HT := hide e0
  obtain rfl := tab_n H2.out HT.out
  clear e0
  go_enter Tryd.func19, Tryd.ntmps19
  go_wp2_with (go_at_call 22; refine (implValidTable_any _ _ c lo hi T hm _ H2.out).mono ?_; rintro e w' ⟨rfl, hw⟩; obtain rfl := hw.symm; rw [HT.out])
  go_loop [14] (fun i => ∃ k : Nat, k ≤ n1 ∧ i = .int .i64 k ∧ Hid (∀ j, j < k → stV (ls.getD j []) = true)) (fun i => n1 - (intOf i).toNat)
  case atStart => exact ⟨0, by omega, rfl, hide (by intro j hj; omega)⟩
  case round =>
    obtain ⟨k, hk, rfl, HA⟩ := hrel
    by_cases hlt : k < n1
    · skip
      obtain ⟨b1, o1, Ai, ni, ci, hA1, _, hb1, hc, hnm, hni, hrr⟩ := HR.out.at_ hlt
      rw [rrInt64_at, rInt64_len1] at hni
      rw [rrInt64_at] at hrr
      subst hA1
      have HNI := hide hni.symm
      have HRW := hide hrr
      clear hni hrr
      cases e1 : stV (ls.getD k [])
      · have HV := hide (codeL_st (ls := ls) HT.out k (by rw [HL.out]; exact hlt) e1)
        have HE := hide e1
        clear e1
        go_wp2_with fail
        refine (isState_any _ _ ci l1 h1 _ HNI.out hnm _ HRW.out).mono ?_
        rintro e w' ⟨rfl, hw⟩
        obtain rfl := hw.symm
        rw [HE.out]
        go_wp2_with fail
        go_ret
        exact ⟨ret_int (by rw [HV.out]), Below.refl _ _⟩
      · have HE := hide e1
        clear e1
        go_wp2_with fail
        refine (isState_any _ _ ci l1 h1 _ HNI.out hnm _ HRW.out).mono ?_
        rintro e w' ⟨rfl, hw⟩
        obtain rfl := hw.symm
        rw [HE.out]
        go_wp2_with fail
        go_round
        case rel => exact ⟨k + 1, by omega, by go_num, hide (fun j hj => by
            by_cases e : j = k
            · subst e; exact HE.out
            · exact HA.out j (by omega))⟩
        case measure => simp [intOf]; omega
    · obtain rfl : k = n1 := by omega
      have HAL := hide (all_st (ls := ls) (fun j hj => HA.out j (by rw [← HL.out]; exact hj)))
      go_wp2_with fail
      go_loopw [24] (fun i wr => ∃ k2 : Nat, k2 ≤ k ∧ i = .int .i64 k2 ∧ Hid (∀ j, j < k2 → hit T (ls.getD j []) = false) ∧ Below w.heap.size w wr) (fun i _ => k - (intOf i).toNat)
      case atStart => exact ⟨0, by omega, rfl, hide (by intro j hj; omega), Below.refl _ _⟩
      case round =>
        obtain ⟨k2, hk2, rfl, HB, hbr⟩ := hrel
        have hsz := hbr.size
        by_cases hlt : k2 < k
        · skip
          obtain ⟨b1, o1, Ai, ni, ci, hA1, _, hb1, hc0, hnm, hni, hrr⟩ := HR.out.at_ hlt
          rw [rrInt64_at, rInt64_len1] at hni
          rw [rrInt64_at] at hrr
          subst hA1
          have hc := (hbr.cell (p := ⟨b1, o1 + k2, none⟩) (by show b1 < _; omega)).trans hc0
          obtain ⟨x, y, hxy, hx0, hx1, hy0, hy1⟩ := stV_two (HA.out k2 hlt)
          have hh : hit T (ls.getD k2 []) = tg T x y := by rw [hxy]; rfl
          rw [hxy] at hrr hni
          obtain rfl : ni = 2 := hni
          have HRS := hide (hrr.below hbr hh1)
          have HH := hide hh
          clear hc0 hrr hxy hh
          cases v1 : tg T x y
          · have HV1 := hide v1
            have HN := hide (HH.out.trans v1)
            clear v1
            go_wp2_with fail
            refine (safe_any _ _ 24 c ci lo hi l1 h1 T HT.out x y (by omega) (by omega) (by omega) (by omega) _ (H2.out.below hbr hhi) HRS.out).mono ?_
            rintro e w1 ⟨rfl, hq1⟩
            rw [HV1.out]
            go_wp2_with fail
            go_roundw
            case rel => exact ⟨k2 + 1, by omega, by go_num, hide (fun j hj => by
                by_cases e : j = k2
                · subst e; exact HN.out
                · exact HB.out j (by omega)), hbr.trans (hq1.mono hsz)⟩
            case measure => simp [intOf]; omega
          · have HV1 := hide v1
            have HV := hide (codeL_hit (ls := ls) HT.out HAL.out k2 (by rw [HL.out]; exact hlt) (HH.out.trans v1))
            clear v1
            go_wp2_with fail
            refine (safe_any _ _ 24 c ci lo hi l1 h1 T HT.out x y (by omega) (by omega) (by omega) (by omega) _ (H2.out.below hbr hhi) HRS.out).mono ?_
            rintro e w1 ⟨rfl, hq1⟩
            rw [HV1.out]
            go_wp2_with fail
            go_ret
            exact ⟨ret_int (by rw [HV.out]), hbr.trans (hq1.mono hsz)⟩
        · obtain rfl : k2 = k := by omega
          have HV := hide (codeL_ok (ls := ls) HT.out HAL.out (fun j hj => HB.out j (by rw [← HL.out]; exact hj)))
          go_wp2_with fail
          go_ret
          exact ⟨ret_int (by rw [HV.out]), hbr⟩

end Go.Proofs.YtnbahmjimnhfbaaDoor
