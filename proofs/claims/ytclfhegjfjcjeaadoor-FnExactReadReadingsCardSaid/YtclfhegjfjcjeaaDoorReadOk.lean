/-
  VALID READINGS: the program's and the reference's. No condition but those that each theorem names.
-/
import Derived.Test.YtclfhegjfjcjeaaDoorNum
import Derived.Test.YtclfhegjfjcjeaaDoorFamReading
namespace Go.Proofs.YtclfhegjfjcjeaaDoor
open Go.RowKit
set_option linter.unusedVariables false

/-- Is the k-th reading as it should be? -/
def okR (l : List (Int × Int)) (k : Nat) : Bool :=
  inR (l.getD k (0, 0)).1 0 1000000 && inR (l.getD k (0, 0)).2 0 600 && (k == 0 || decide ((l.getD (k - 1) (0, 0)).1 < (l.getD k (0, 0)).1))
def validR (l : List (Int × Int)) : Bool := (List.range l.length).all (okR l) && decide (l.length ≤ 200)
theorem validR_false {l : List (Int × Int)} {k : Nat} (hk : k < l.length) (h : okR l k = false) : validR l = false := by
  unfold validR
  rw [Bool.and_eq_false_iff]
  left
  rw [List.all_eq_false]
  exact ⟨k, by simpa using hk, by simp [h]⟩
theorem validR_end {l : List (Int × Int)} (h : ∀ j, j < l.length → okR l j = true) : validR l = decide (l.length ≤ 200) := by
  unfold validR
  rw [List.all_eq_true.2 (fun j hj => h j (by simpa using hj)), Bool.true_and]
theorem okR_1 {l : List (Int × Int)} {k : Nat} (hk : k < l.length) (h : inR l[k].1 0 1000000 = false) : okR l k = false := by simp [okR, List.getD, hk, h]
theorem okR_2 {l : List (Int × Int)} {k : Nat} (hk : k < l.length) (h : inR l[k].2 0 600 = false) : okR l k = false := by simp [okR, List.getD, hk, h]
theorem okR_3 {l : List (Int × Int)} {k : Nat} (hk : k + 1 < l.length) (h : ¬ l[k].1 < l[k + 1].1) : okR l (k + 1) = false := by
  simp only [okR, List.getD, List.getElem?_eq_getElem hk, List.getElem?_eq_getElem (show k < l.length by omega), Nat.add_sub_cancel, Option.getD_some]
  simp [h]
theorem okR_0 {l : List (Int × Int)} (hk : 0 < l.length) (h : inR l[0].1 0 1000000 = true) (h2 : inR l[0].2 0 600 = true) : okR l 0 = true := by simp [okR, List.getD, hk, h, h2]
theorem okR_s {l : List (Int × Int)} {k : Nat} (hk : k + 1 < l.length) (h : inR l[k + 1].1 0 1000000 = true) (h2 : inR l[k + 1].2 0 600 = true) (h3 : l[k].1 < l[k + 1].1) : okR l (k + 1) = true := by
  simp only [okR, List.getD, List.getElem?_eq_getElem hk, List.getElem?_eq_getElem (show k < l.length by omega), Nat.add_sub_cancel, Option.getD_some]
  simp [h, h2, h3]
theorem ok_more {l : List (Int × Int)} {k : Nat} (h : ∀ j, j < k → okR l j = true) (hk : okR l k = true) : ∀ j, j < k + 1 → okR l j = true := by
  intro j hj
  rcases Nat.lt_or_ge j k with h1 | h1
  · exact h j h1
  · obtain rfl : j = k := by omega
    exact hk

set_option maxHeartbeats 400000 in
theorem l21Speed_any (n : Int) (w : World) : Calls Tryd.prog 20 #[.int .i64 n] w fun e w' => e = .returned (.bool (inR n 0 600)) ∧ w' = w := by
  go_enter Tryd.func20, Tryd.ntmps20
  go_wp2_with (go_at_call 19; refine (l00In_any _ _ _ _).mono ?_; rintro e w' ⟨rfl, rfl⟩)
  go_ret
  exact ⟨rfl, rfl⟩

set_option maxHeartbeats 2000000 in
theorem ValidReadings_any (A : Option Addr) (n c lo hi : Nat) (l : List (Int × Int)) (hn : n ≤ 1048576) (w : World) (hl : l.length = n) (h : Rd w lo hi 2 A n (rReading l)) (hhi : hi ≤ w.heap.size) :
    Calls Tryd.prog 15 #[.slice A n c] w fun e w' => e = .returned (.bool (validR l)) ∧ Below w.heap.size w w' := by
  have H1 := hide hl
  have H2 := hide h
  clear hl h
  go_enter Tryd.func15, Tryd.ntmps15
  go_wp2
  go_loopw [7] (fun i wr => ∃ k : Nat, k ≤ n ∧ i = .int .i64 k ∧ Hid (∀ j, j < k → okR l j = true) ∧ Below w.heap.size w wr) (fun i _ => n - (intOf i).toNat)
  case atStart => exact ⟨0, by omega, rfl, fun j hj => absurd hj (by omega), Below.refl _ _⟩
  case round =>
    obtain ⟨k, hk, rfl, hok, hbr⟩ := hrel
    by_cases hlt : k < n
    · have hlen : k < l.length := by rw [H1.out]; exact hlt
      obtain ⟨t0, t1⟩ := rReading_at l k hlen
      obtain ⟨b, off, rfl, hb1', hb2', hc⟩ := H2.out.2 (by omega)
      have c0 : wr.cell? ⟨b, off + k * 2, none⟩ = some (.int .i64 l[k].1) := (hbr.cell (p := ⟨b, _, none⟩) (by show b < _; omega)).trans (hc _ _ t0)
      have c1 : wr.cell? ⟨b, off + k * 2 + 1, none⟩ = some (.int .i64 l[k].2) := (hbr.cell (p := ⟨b, _, none⟩) (by show b < _; omega)).trans (hc _ _ t1)
      have hbl : b < wr.heap.size := by have := hbr.size; omega
      cases e1 : inR l[k].1 0 1000000 with
      | false =>
        have E := hide (validR_false hlen (okR_1 hlen e1))
        generalize l[k].1 = p at *
        generalize l[k].2 = q at *
        clear t0 t1 hc
        go_wp2_with fail
        go_quiet ((go_at_call 25; exact Calls.quiet_of_same (within_any _ _ _ _)))
        go_wp2_with fail
        go_ret
        exact ⟨ret_bool E.out.symm, (hbr.alloc hbr.size _).trans (Joins.below_draws _ _ _)⟩
      | true =>
        cases e2 : inR l[k].2 0 600 with
        | false =>
          have E := hide (validR_false hlen (okR_2 hlen e2))
          generalize l[k].1 = p at *
          generalize l[k].2 = q at *
          clear t0 t1 hc
          go_wp2_with fail
          go_quiet ((go_at_call 25; exact Calls.quiet_of_same (within_any _ _ _ _)))
          go_wp2_with fail
          go_ret
          exact ⟨ret_bool E.out.symm, (hbr.alloc hbr.size _).trans (Joins.below_draws _ _ _)⟩
        | true =>
          by_cases hk0 : k = 0
          · subst hk0
            have E := hide (ok_more hok.out (okR_0 hlen e1 e2))
            clear hok
            simp only [Nat.zero_mul, Nat.add_zero] at c0 c1
            generalize l[0].1 = p at *
            generalize l[0].2 = q at *
            clear t0 t1 hc
            go_wp2_with fail
            go_quiet ((go_at_call 25; exact Calls.quiet_of_same (within_any _ _ _ _)))
            go_wp2_with fail
            go_roundw
            case rel => exact ⟨0 + 1, by omega, by go_num, E.out, (hbr.alloc hbr.size _).trans (Joins.below_draws _ _ _)⟩
            case measure => simp [intOf]; omega
          · obtain ⟨k', rfl⟩ : ∃ k', k = k' + 1 := ⟨k - 1, by omega⟩
            clear hk0
            obtain ⟨s0, _⟩ := rReading_at l k' (by omega)
            have cp : wr.cell? ⟨b, off + k' * 2, none⟩ = some (.int .i64 l[k'].1) := (hbr.cell (p := ⟨b, _, none⟩) (by show b < _; omega)).trans (hc _ _ s0)
            by_cases h4 : l[k'].1 < l[k' + 1].1
            · have E := hide (ok_more hok.out (okR_s hlen e1 e2 h4))
              clear hok
              have hd : decide (l[k' + 1].1 ≤ l[k'].1) = false := by simp; omega
              generalize l[k' + 1].1 = p at *
              generalize l[k' + 1].2 = q at *
              generalize l[k'].1 = pp at *
              clear t0 t1 hc s0
              go_wp2_with fail
              go_quiet ((go_at_call 25; exact Calls.quiet_of_same (within_any _ _ _ _)))
              go_wp2_with fail
              go_roundw
              case rel => exact ⟨k' + 1 + 1, by omega, by go_num, E.out, (hbr.alloc hbr.size _).trans (Joins.below_draws _ _ _)⟩
              case measure => simp [intOf]; omega
            · have E := hide (validR_false hlen (okR_3 hlen h4))
              clear hok
              have hd : decide (l[k' + 1].1 ≤ l[k'].1) = true := by simp; omega
              have h4' : l[k' + 1].1 ≤ l[k'].1 := by omega
              generalize l[k' + 1].1 = p at *
              generalize l[k' + 1].2 = q at *
              generalize l[k'].1 = pp at *
              clear t0 t1 hc s0 h4
              go_wp2_with fail
              go_quiet ((go_at_call 25; exact Calls.quiet_of_same (within_any _ _ _ _)))
              go_wp2_with fail
              go_ret
              exact ⟨ret_bool E.out.symm, (hbr.alloc hbr.size _).trans (Joins.below_draws _ _ _)⟩
    · obtain rfl : k = n := by omega
      have E := hide (validR_end (fun j hj => hok.out j (by rw [H1.out] at hj; exact hj)))
      rw [H1.out] at E
      clear hok
      by_cases h2 : k ≤ 200
      · go_wp2
        go_ret
        exact ⟨ret_bool (by rw [E.out]; simp [h2]; try omega), hbr⟩
      · go_wp2
        go_ret
        exact ⟨ret_bool (by rw [E.out]; simp [h2]; try omega), hbr⟩

set_option maxHeartbeats 2000000 in
theorem l21Ok_any (A : Option Addr) (n c lo hi : Nat) (l : List (Int × Int)) (hn : n ≤ 1048576) (w : World) (hl : l.length = n) (h : Rd w lo hi 2 A n (rReading l)) (hhi : hi ≤ w.heap.size) :
    Calls Tryd.prog 11 #[.slice A n c] w fun e w' => e = .returned (.bool (validR l)) ∧ Below w.heap.size w w' := by
  have H1 := hide hl
  have H2 := hide h
  clear hl h
  go_enter Tryd.func11, Tryd.ntmps11
  go_wp2
  go_loopw [3] (fun i wr => ∃ k : Nat, k ≤ n ∧ i = .int .i64 k ∧ Hid (∀ j, j < k → okR l j = true) ∧ Below w.heap.size w wr) (fun i _ => n - (intOf i).toNat)
  case atStart => exact ⟨0, by omega, rfl, fun j hj => absurd hj (by omega), Below.refl _ _⟩
  case round =>
    obtain ⟨k, hk, rfl, hok, hbr⟩ := hrel
    by_cases hlt : k < n
    · have hlen : k < l.length := by rw [H1.out]; exact hlt
      obtain ⟨t0, t1⟩ := rReading_at l k hlen
      obtain ⟨b, off, rfl, hb1', hb2', hc⟩ := H2.out.2 (by omega)
      have c0 : wr.cell? ⟨b, off + k * 2, none⟩ = some (.int .i64 l[k].1) := (hbr.cell (p := ⟨b, _, none⟩) (by show b < _; omega)).trans (hc _ _ t0)
      have c1 : wr.cell? ⟨b, off + k * 2 + 1, none⟩ = some (.int .i64 l[k].2) := (hbr.cell (p := ⟨b, _, none⟩) (by show b < _; omega)).trans (hc _ _ t1)
      have hbl : b < wr.heap.size := by have := hbr.size; omega
      cases e1 : inR l[k].1 0 1000000 with
      | false =>
        have E := hide (validR_false hlen (okR_1 hlen e1))
        generalize l[k].1 = p at *
        generalize l[k].2 = q at *
        clear t0 t1 hc
        go_wp2_with fail
        go_quiet ((first | (go_at_call 19; exact Calls.quiet_of_same (l00In_any _ _ _ _)) | (go_at_call 20; exact Calls.quiet_of_same (l21Speed_any _ _))))
        go_wp2_with fail
        go_ret
        exact ⟨ret_bool E.out.symm, hbr.trans (Joins.below_draws _ _ _)⟩
      | true =>
        cases e2 : inR l[k].2 0 600 with
        | false =>
          have E := hide (validR_false hlen (okR_2 hlen e2))
          generalize l[k].1 = p at *
          generalize l[k].2 = q at *
          clear t0 t1 hc
          go_wp2_with fail
          go_quiet ((first | (go_at_call 19; exact Calls.quiet_of_same (l00In_any _ _ _ _)) | (go_at_call 20; exact Calls.quiet_of_same (l21Speed_any _ _))))
          go_wp2_with fail
          go_ret
          exact ⟨ret_bool E.out.symm, hbr.trans (Joins.below_draws _ _ _)⟩
        | true =>
          by_cases hk0 : k = 0
          · subst hk0
            have E := hide (ok_more hok.out (okR_0 hlen e1 e2))
            clear hok
            simp only [Nat.zero_mul, Nat.add_zero] at c0 c1
            generalize l[0].1 = p at *
            generalize l[0].2 = q at *
            clear t0 t1 hc
            go_wp2_with fail
            go_quiet ((first | (go_at_call 19; exact Calls.quiet_of_same (l00In_any _ _ _ _)) | (go_at_call 20; exact Calls.quiet_of_same (l21Speed_any _ _))))
            go_wp2_with fail
            go_roundw
            case rel => exact ⟨0 + 1, by omega, by go_num, E.out, hbr.trans (Joins.below_draws _ _ _)⟩
            case measure => simp [intOf]; omega
          · obtain ⟨k', rfl⟩ : ∃ k', k = k' + 1 := ⟨k - 1, by omega⟩
            clear hk0
            obtain ⟨s0, _⟩ := rReading_at l k' (by omega)
            have cp : wr.cell? ⟨b, off + k' * 2, none⟩ = some (.int .i64 l[k'].1) := (hbr.cell (p := ⟨b, _, none⟩) (by show b < _; omega)).trans (hc _ _ s0)
            by_cases h4 : l[k'].1 < l[k' + 1].1
            · have E := hide (ok_more hok.out (okR_s hlen e1 e2 h4))
              clear hok
              have hd : decide (l[k' + 1].1 ≤ l[k'].1) = false := by simp; omega
              generalize l[k' + 1].1 = p at *
              generalize l[k' + 1].2 = q at *
              generalize l[k'].1 = pp at *
              clear t0 t1 hc s0
              go_wp2_with fail
              go_quiet ((first | (go_at_call 19; exact Calls.quiet_of_same (l00In_any _ _ _ _)) | (go_at_call 20; exact Calls.quiet_of_same (l21Speed_any _ _))))
              go_wp2_with fail
              go_roundw
              case rel => exact ⟨k' + 1 + 1, by omega, by go_num, E.out, hbr.trans (Joins.below_draws _ _ _)⟩
              case measure => simp [intOf]; omega
            · have E := hide (validR_false hlen (okR_3 hlen h4))
              clear hok
              have hd : decide (l[k' + 1].1 ≤ l[k'].1) = true := by simp; omega
              have h4' : l[k' + 1].1 ≤ l[k'].1 := by omega
              generalize l[k' + 1].1 = p at *
              generalize l[k' + 1].2 = q at *
              generalize l[k'].1 = pp at *
              clear t0 t1 hc s0 h4
              go_wp2_with fail
              go_quiet ((first | (go_at_call 19; exact Calls.quiet_of_same (l00In_any _ _ _ _)) | (go_at_call 20; exact Calls.quiet_of_same (l21Speed_any _ _))))
              go_wp2_with fail
              go_ret
              exact ⟨ret_bool E.out.symm, hbr.trans (Joins.below_draws _ _ _)⟩
    · obtain rfl : k = n := by omega
      have E := hide (validR_end (fun j hj => hok.out j (by rw [H1.out] at hj; exact hj)))
      rw [H1.out] at E
      clear hok
      by_cases h2 : k ≤ 200
      · go_wp2
        go_ret
        exact ⟨ret_bool (by rw [E.out]; simp [h2]; try omega), hbr⟩
      · go_wp2
        go_ret
        exact ⟨ret_bool (by rw [E.out]; simp [h2]; try omega), hbr⟩

end Go.Proofs.YtclfhegjfjcjeaaDoor
