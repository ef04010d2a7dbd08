/-
  IS IT A TABLE: the reference's and the program's. No condition but those that each theorem names.
-/
import Derived.Test.YtoklcjpokffocaaTab
import Derived.Test.YtoklcjpokffocaaNum
namespace Go.Proofs.Ytoklcjpokffocaa
open Go.RowKit
set_option linter.unusedVariables false

theorem nat24 (n : Nat) : ((n : Int) == 24) = decide (n = 24) := by
  by_cases h : n = 24
  · subst h; rfl
  · have : ((n : Int) == 24) = false := by simp; omega
    rw [this]; simp [h]

set_option maxHeartbeats 1000000 in
theorem l15Ok_any (A : Option Addr) (n c lo hi : Nat) (T : List (List Bool)) (hm : n ≤ maxLen) (w : World) (h : RdSS w lo hi A n (rrBool T)) :
    Calls Try.prog 36 #[.slice A n c] w fun e w' => e = .returned (.bool (okT T)) ∧ w' = w := by
  unfold maxLen at hm
  have hlen : T.length = n := by have := h.length; rw [rrBool_len] at this; exact this
  have H2 := hide h
  clear h
  go_enter Try.func36, Try.ntmps36
  go_wp2
  go_loop [3] (fun i => ∃ k : Nat, k ≤ n ∧ i = .int .i64 k ∧ Hid (∀ j, j < k → (T.getD j []).length = 24)) (fun i => n - (intOf i).toNat)
  case atStart => exact ⟨0, by omega, rfl, hide (by intro j hj; omega)⟩
  case round =>
    obtain ⟨k, hk, rfl, HP⟩ := hrel
    by_cases hlt : k < n
    · obtain ⟨b, off, Ai, ni, ci, rfl, hb1, hb2, hc, hnm, hni, hr⟩ := H2.out.at_ hlt
      rw [rrBool_at, rBool_len1] at hni
      have HN := hide hni
      clear hr hni
      unfold maxLen at hnm
      by_cases h24 : ni = 24
      · have hne : ((ni : Int) == 24) = true := by simp; omega
        have hq : ((ni : Int) != 24) = false := by simp; omega
        go_wp2
        go_round
        case rel =>
          refine ⟨k + 1, by omega, by go_num, hide ?_⟩
          intro j hj
          by_cases hjk : j = k
          · subst hjk; exact HN.out.symm.trans h24
          · exact HP.out j (by omega)
        case measure => simp [intOf]; omega
      · have hne : ((ni : Int) == 24) = false := by simp; omega
        have hq : ((ni : Int) != 24) = true := by simp; omega
        go_wp2
        go_ret
        exact ⟨ret_bool (okT_bad (k := k) (by omega) (by rw [← HN.out]; exact h24)).symm, rfl⟩
    · obtain rfl : k = n := by omega
      have E := okT_end (T := T) (by intro j hj; exact HP.out j (by omega))
      have HE := hide E
      clear E
      go_wp2
      go_ret
      exact ⟨ret_bool (by rw [HE.out, hlen, nat24]), rfl⟩

set_option maxHeartbeats 400000 in
theorem row24_any (Ai : Option Addr) (ni ci : Nat) (hm : ni ≤ maxLen) (w : World) :
    Calls Try.prog 57 #[.slice Ai ni ci] w fun e w' => e = .returned (.bool ((ni : Int) != 24)) ∧ w' = w := by
  unfold maxLen at hm
  go_enter Try.func57, Try.ntmps57
  go_wp2
  go_ret
  exact ⟨rfl, rfl⟩

def rowsOk (T : List (List Bool)) : Bool := T.all fun r => decide (r.length = 24)
theorem okT_rows (T : List (List Bool)) : okT T = (decide (T.length = 24) && rowsOk T) := rfl
theorem rowsOk_bad {T : List (List Bool)} {k : Nat} (hk : k < T.length) (h : (T.getD k []).length ≠ 24) : rowsOk T = false := by
  cases e : rowsOk T with
  | false => rfl
  | true =>
    unfold rowsOk at e
    have := List.all_eq_true.1 e T[k] (List.getElem_mem _)
    rw [show T.getD k [] = T[k] by simp [List.getD, hk]] at h
    exact absurd (of_decide_eq_true this) h
theorem rowsOk_end {T : List (List Bool)} (h : ∀ j, j < T.length → (T.getD j []).length = 24) : rowsOk T = true := by
  unfold rowsOk
  rw [List.all_eq_true]
  intro r hr
  obtain ⟨i, hi, rfl⟩ := List.mem_iff_getElem.1 hr
  have := h i hi
  rw [show T.getD i [] = T[i] by simp [List.getD, hi]] at this
  simpa using this

set_option maxHeartbeats 1000000 in
theorem indexRow_any (A : Option Addr) (n c lo hi : Nat) (T : List (List Bool)) (hm : n ≤ maxLen) (w : World) (h : RdSS w lo hi A n (rrBool T)) :
    Calls Try.prog 64 #[.slice A n c, .func (.func 57) #[] #[]] w fun e w' => ∃ r : Int, e = .returned (.int .i64 r) ∧ decide (0 ≤ r) = !(rowsOk T) ∧ w' = w := by
  unfold maxLen at hm
  have hlen : T.length = n := by have := h.length; rw [rrBool_len] at this; exact this
  have H2 := hide h
  clear h
  go_enter Try.func64, Try.ntmps64
  go_wp2
  go_loop [5, 8] (fun _ i => ∃ k : Nat, k ≤ n ∧ i = .int .i64 k ∧ Hid (∀ j, j < k → (T.getD j []).length = 24)) (fun _ i => n - (intOf i).toNat)
  case atStart => exact ⟨0, by omega, rfl, hide (by intro j hj; omega)⟩
  case round =>
    obtain ⟨k, hk, rfl, HP⟩ := hrel
    by_cases hlt : k < n
    · obtain ⟨b, off, Ai, ni, ci, rfl, hb1, hb2, hc, hnm, hni, hr⟩ := H2.out.at_ hlt
      rw [rrBool_at, rBool_len1] at hni
      have HN := hide hni
      clear hr hni
      unfold maxLen at hnm
      by_cases h24 : ni = 24
      · subst h24
        go_wp2_with (go_at_call 57; refine (row24_any Ai 24 ci (by unfold maxLen; omega) _).mono ?_; rintro e w' ⟨rfl, hw⟩; obtain rfl := hw.symm; rw [show (((24 : Nat) : Int) != 24) = false from rfl])
        go_round
        case rel =>
          refine ⟨k + 1, by omega, by go_num, hide ?_⟩
          intro j hj
          by_cases hjk : j = k
          · subst hjk; exact HN.out.symm
          · exact HP.out j (by omega)
        case measure => simp [intOf]; omega
      · have hq : ((ni : Int) != 24) = true := by simp; omega
        go_wp2_with (go_at_call 57; refine (row24_any Ai ni ci (by unfold maxLen; omega) _).mono ?_; rintro e w' ⟨rfl, hw⟩; obtain rfl := hw.symm; rw [hq])
        go_ret
        exact ⟨_, rfl, by rw [rowsOk_bad (k := k) (by omega) (by rw [← HN.out]; exact h24)]; simp, rfl⟩
    · obtain rfl : k = n := by omega
      have HE := hide (rowsOk_end (T := T) (by intro j hj; exact HP.out j (by omega)))
      go_wp2
      go_ret
      exact ⟨_, rfl, by rw [HE.out]; simp, rfl⟩

set_option maxHeartbeats 400000 in
theorem someRow_any (A : Option Addr) (n c lo hi : Nat) (T : List (List Bool)) (hm : n ≤ maxLen) (w : World) (h : RdSS w lo hi A n (rrBool T)) :
    Calls Try.prog 56 #[.slice A n c, .func (.func 57) #[] #[]] w fun e w' => e = .returned (.bool (!(rowsOk T))) ∧ w' = w := by
  have H2 := hide h
  clear h
  go_enter Try.func56, Try.ntmps56
  go_wp2_with fail
  refine (indexRow_any A n c lo hi T hm _ H2.out).mono ?_
  rintro e w' ⟨r, rfl, hr, hw⟩
  obtain rfl := hw.symm
  have HR := hide hr
  clear hr
  go_wp2_with fail
  go_ret
  exact ⟨ret_bool (by rw [← HR.out]), rfl⟩

set_option maxHeartbeats 1000000 in
theorem implValidTable_any (A : Option Addr) (n c lo hi : Nat) (T : List (List Bool)) (hm : n ≤ maxLen) (w : World) (h : RdSS w lo hi A n (rrBool T)) :
    Calls Try.prog 37 #[.slice A n c] w fun e w' => e = .returned (.bool (okT T)) ∧ w' = w := by
  have hl := h.length
  rw [rrBool_len] at hl
  rw [okT_rows, hl]
  have H2 := hide h
  clear h hl
  by_cases h24 : n = 24
  · subst h24
    go_enter Try.func37, Try.ntmps37
    go_wp2_with fail
    refine (someRow_any A 24 c lo hi T hm _ H2.out).mono ?_
    rintro e w' ⟨rfl, hw⟩
    obtain rfl := hw.symm
    go_wp2_with fail
    go_ret
    exact ⟨ret_bool (by simp), rfl⟩
  · unfold maxLen at hm
    have hq : ((n : Int) == 24) = false := by simp; omega
    go_enter Try.func37, Try.ntmps37
    go_wp2_with fail
    go_ret
    exact ⟨ret_bool (by simp [h24]), rfl⟩
end Go.Proofs.Ytoklcjpokffocaa
