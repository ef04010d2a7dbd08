/-
  MOTIONS: the values that motions have, and is a motion valid. No condition but those that each theorem names.
-/
import Derived.Test.YtoklcjpokffocaaNear
import Derived.Test.YtoklcjpokffocaaBox
import Derived.Test.YtoklcjpokffocaaTurn
namespace Go.Proofs.Ytoklcjpokffocaa
open Go.RowKit
set_option linter.unusedVariables false

/-- Is a motion valid? -/
def stepsV (l : List Int) : Bool := l.all fun x => inR x (-1) 1
def moV (st : Int) (l : List Int) : Bool := stepsV l && (inR st 0 23 && decide (l.length ≤ 200))
theorem stepsV_bad {l : List Int} {k : Nat} (hk : k < l.length) (h : inR (l.getD k 0) (-1) 1 = false) : stepsV l = false := by
  cases hs : stepsV l
  · rfl
  · have := List.all_eq_true.mp hs (l.getD k 0) (by simp [List.getD, hk])
    simp only [h] at this
    exact absurd this (by decide)
theorem stepsV_end {l : List Int} (h : ∀ j, j < l.length → inR (l.getD j 0) (-1) 1 = true) : stepsV l = true := by
  refine List.all_eq_true.mpr fun x hx => ?_
  obtain ⟨i, hi, rfl⟩ := List.getElem_of_mem hx
  have := h i hi
  simpa [List.getD, hi] using this
theorem stepsV_at {l : List Int} (h : stepsV l = true) (k : Nat) (hk : k < l.length) : -1 ≤ l.getD k 0 ∧ l.getD k 0 ≤ 1 := by
  have := List.all_eq_true.mp h (l.getD k 0) (by simp [List.getD, hk])
  exact inR_true this
theorem moV_true {st : Int} {l : List Int} (h : moV st l = true) : stepsV l = true ∧ 0 ≤ st ∧ st ≤ 23 ∧ l.length ≤ 200 := by
  unfold moV at h
  rw [Bool.and_eq_true, Bool.and_eq_true] at h
  obtain ⟨h1, h2, h3⟩ := h
  obtain ⟨a, b⟩ := inR_true h2
  exact ⟨h1, a, b, of_decide_eq_true h3⟩
theorem le200 (n : Nat) : decide ((n : Int) ≤ 200) = decide (n ≤ 200) := by
  by_cases h : n ≤ 200
  · have : (n : Int) ≤ 200 := by omega
    simp [h, this]
  · have : ¬ (n : Int) ≤ 200 := by omega
    simp [h, this]

theorem mo_cells {w : World} {lo hi n : Nat} {A : Option Addr} {l : List Int} (h : Rd w lo hi 1 A n (rInt64 l)) (hl : l.length = n) (h0 : 0 < n) :
    ∃ b off, A = some ⟨b, off, none⟩ ∧ lo ≤ b ∧ b < hi ∧ ∀ k, k < n → w.cell? ⟨b, off + k, none⟩ = some (.int .i64 (l.getD k 0)) := by
  obtain ⟨b, off, rfl, h1, h2, hc⟩ := h.2 h0
  refine ⟨b, off, rfl, h1, h2, fun k hk => ?_⟩
  have hk' : k < l.length := by omega
  have := hc (k * 1) _ (rInt64_at l k hk')
  rw [Nat.mul_one] at this
  rw [this, show l.getD k 0 = l[k] by simp [List.getD, hk']]

theorem below_al (w : World) (o : Obj) : Below w.heap.size w (w.alloc o) := (Below.refl _ _).alloc (Nat.le_refl _) o

set_option maxHeartbeats 2000000 in
theorem l16Ok_any (b : Nat) (A : Option Addr) (n c lo hi : Nat) (st : Int) (l : List Int) (hl : l.length = n) (hm : n ≤ maxLen) (w : World) (hB : Box w b [.int .i64 st, .slice A n c]) (h : Rd w lo hi 1 A n (rInt64 l)) :
    Calls Try.prog 49 #[.pointer (some ⟨b, 0, none⟩)] w fun e w' => e = .returned (.bool (moV st l)) ∧ w' = w := by
  unfold maxLen at hm
  have c0 := hB 0 _ rfl
  have c1 := hB 1 _ rfl
  have H2 := hide h
  clear h hB
  go_enter Try.func49, Try.ntmps49
  go_wp2
  go_loop [3] (fun i => ∃ k : Nat, k ≤ n ∧ i = .int .i64 k ∧ Hid (∀ j, j < k → inR (l.getD j 0) (-1) 1 = true)) (fun i => n - (intOf i).toNat)
  case atStart => exact ⟨0, by omega, rfl, hide (by intro j hj; omega)⟩
  case round =>
    obtain ⟨k, hk, rfl, HP⟩ := hrel
    by_cases hlt : k < n
    · obtain ⟨ba, off, rfl, _, _, hcc⟩ := mo_cells H2.out hl (by omega)
      have cx := hcc k hlt
      clear hcc
      obtain ⟨x, hx⟩ : ∃ x, l.getD k 0 = x := ⟨_, rfl⟩
      rw [hx] at cx
      have HX := hide hx
      clear hx
      cases hv : inR x (-1) 1
      · have HB := hide (stepsV_bad (l := l) (k := k) (by omega) (by rw [HX.out]; exact hv))
        have HV := hide hv
        clear hv
        go_wp2_with (go_at_call 33; refine (l00In_any _ _ _ _).mono ?_; rintro e w' ⟨rfl, hw⟩; obtain rfl := hw.symm; rw [HV.out])
        go_ret
        exact ⟨ret_bool (by unfold moV; rw [HB.out]; rfl), rfl⟩
      · have HV := hide hv
        clear hv
        go_wp2_with (go_at_call 33; refine (l00In_any _ _ _ _).mono ?_; rintro e w' ⟨rfl, hw⟩; obtain rfl := hw.symm; rw [HV.out])
        go_round
        case rel =>
          refine ⟨k + 1, by omega, by go_num, hide ?_⟩
          intro j hj
          by_cases hjk : j = k
          · subst hjk; rw [HX.out]; exact HV.out
          · exact HP.out j (by omega)
        case measure => simp [intOf]; omega
    · obtain rfl : k = n := by omega
      have HE := hide (stepsV_end (l := l) (by intro j hj; exact HP.out j (by omega)))
      cases hd : inR st 0 23
      all_goals
        go_wp2_with (go_at_call 55; refine (l02Dir_any _ _).mono ?_; rintro e w' ⟨rfl, hw⟩; obtain rfl := hw.symm; rw [hd])
        go_ret
        exact ⟨ret_bool (by unfold moV; rw [HE.out, hl, hd, ← le200]; simp), rfl⟩

set_option maxHeartbeats 400000 in
theorem vm1_any (n : Int) (w : World) : Calls Try.prog 59 #[.int .i64 n] w fun e w' => e = .returned (.bool (!(inR n (-1) 1))) ∧ w' = w := by
  go_enter Try.func59, Try.ntmps59
  go_wp2_with (go_at_call 32; refine (isTurn2_any _ _).mono ?_; rintro e w' ⟨rfl, hw⟩; obtain rfl := hw.symm)
  go_ret
  exact ⟨rfl, rfl⟩

set_option maxHeartbeats 1000000 in
theorem indexStep_any (A : Option Addr) (n c lo hi : Nat) (l : List Int) (hl : l.length = n) (hm : n ≤ maxLen) (w : World) (h : Rd w lo hi 1 A n (rInt64 l)) :
    Calls Try.prog 65 #[.slice A n c, .func (.func 59) #[] #[]] w fun e w' => ∃ r : Int, e = .returned (.int .i64 r) ∧ decide (0 ≤ r) = !(stepsV l) ∧ w' = w := by
  unfold maxLen at hm
  have H2 := hide h
  clear h
  go_enter Try.func65, Try.ntmps65
  go_wp2
  go_loop [5, 8] (fun _ i => ∃ k : Nat, k ≤ n ∧ i = .int .i64 k ∧ Hid (∀ j, j < k → inR (l.getD j 0) (-1) 1 = true)) (fun _ i => n - (intOf i).toNat)
  case atStart => exact ⟨0, by omega, rfl, hide (by intro j hj; omega)⟩
  case round =>
    obtain ⟨k, hk, rfl, HP⟩ := hrel
    by_cases hlt : k < n
    · obtain ⟨ba, off, rfl, _, _, hcc⟩ := mo_cells H2.out hl (by omega)
      have cx := hcc k hlt
      clear hcc
      obtain ⟨x, hx⟩ : ∃ x, l.getD k 0 = x := ⟨_, rfl⟩
      rw [hx] at cx
      have HX := hide hx
      clear hx
      cases hv : inR x (-1) 1
      · have HB := hide (stepsV_bad (l := l) (k := k) (by omega) (by rw [HX.out]; exact hv))
        have HV := hide hv
        clear hv
        go_wp2_with (go_at_call 59; refine (vm1_any _ _).mono ?_; rintro e w' ⟨rfl, hw⟩; obtain rfl := hw.symm; rw [HV.out])
        go_ret
        exact ⟨_, rfl, by rw [HB.out]; simp, rfl⟩
      · have HV := hide hv
        clear hv
        go_wp2_with (go_at_call 59; refine (vm1_any _ _).mono ?_; rintro e w' ⟨rfl, hw⟩; obtain rfl := hw.symm; rw [HV.out])
        go_round
        case rel =>
          refine ⟨k + 1, by omega, by go_num, hide ?_⟩
          intro j hj
          by_cases hjk : j = k
          · subst hjk; rw [HX.out]; exact HV.out
          · exact HP.out j (by omega)
        case measure => simp [intOf]; omega
    · obtain rfl : k = n := by omega
      have HE := hide (stepsV_end (l := l) (by intro j hj; exact HP.out j (by omega)))
      go_wp2
      go_ret
      exact ⟨_, rfl, by rw [HE.out]; simp, rfl⟩

set_option maxHeartbeats 400000 in
theorem someStep_any (A : Option Addr) (n c lo hi : Nat) (l : List Int) (hl : l.length = n) (hm : n ≤ maxLen) (w : World) (h : Rd w lo hi 1 A n (rInt64 l)) :
    Calls Try.prog 58 #[.slice A n c, .func (.func 59) #[] #[]] w fun e w' => e = .returned (.bool (!(stepsV l))) ∧ w' = w := by
  have H2 := hide h
  clear h
  go_enter Try.func58, Try.ntmps58
  go_wp2_with fail
  refine (indexStep_any A n c lo hi l hl hm _ H2.out).mono ?_
  rintro e w' ⟨r, rfl, hr, hw⟩
  obtain rfl := hw.symm
  have HR := hide hr
  clear hr
  go_wp2_with fail
  go_ret
  exact ⟨ret_bool (by rw [← HR.out]), rfl⟩

set_option maxHeartbeats 2000000 in
theorem implValidMotion_any (A : Option Addr) (n c lo hi : Nat) (st : Int) (l : List Int) (hl : l.length = n) (hm : n ≤ maxLen) (w : World) (hw0 : hi ≤ w.heap.size) (h : Rd w lo hi 1 A n (rInt64 l)) :
    Calls Try.prog 40 #[.agg #[.int .i64 st, .slice A n c]] w fun e w' => e = .returned (.bool (moV st l)) ∧ Below w.heap.size w w' := by
  unfold maxLen at hm
  have H2 := hide h
  have H0 := hide hw0
  clear h hw0
  have HL := hide hl
  clear hl
  cases hd : inR st 0 23
  · go_enter Try.func40, Try.ntmps40
    go_wp2_with (go_at_call 53; refine (isDirection_any _ _).mono ?_; rintro e w' ⟨rfl, hw⟩; obtain rfl := hw.symm; rw [hd])
    go_ret
    exact ⟨ret_bool (by unfold moV; rw [hd]; simp), below_al _ _⟩
  · cases hn : decide ((n : Int) ≤ 200)
    · go_enter Try.func40, Try.ntmps40
      go_wp2_with (go_at_call 53; refine (isDirection_any _ _).mono ?_; rintro e w' ⟨rfl, hw⟩; obtain rfl := hw.symm; rw [hd])
      go_ret
      exact ⟨ret_bool (by unfold moV; rw [HL.out, ← le200, hn]; simp), below_al _ _⟩
    · go_enter Try.func40, Try.ntmps40
      go_wp2_with (go_at_call 53; refine (isDirection_any _ _).mono ?_; rintro e w' ⟨rfl, hw⟩; obtain rfl := hw.symm; rw [hd])
      refine (someStep_any A n c lo hi l HL.out (by unfold maxLen; omega) _ (H2.out.alloc H0.out _)).mono ?_
      rintro e w' ⟨rfl, hw⟩
      obtain rfl := hw.symm
      go_wp2_with fail
      go_ret
      exact ⟨ret_bool (by unfold moV; rw [hd, HL.out, ← le200, hn]; simp), below_al _ _⟩
end Go.Proofs.Ytoklcjpokffocaa
