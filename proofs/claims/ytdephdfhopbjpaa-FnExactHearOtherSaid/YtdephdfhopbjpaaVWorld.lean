/-
  VALID WORLDS: the program's and the reference's. No condition but those that each theorem names.
-/
import Derived.Test.YtdephdfhopbjpaaStructs
import Derived.Test.YtdephdfhopbjpaaTurn
namespace Go.Proofs.Ytdephdfhopbjpaa
open Go.RowKit
set_option linter.unusedVariables false

def vWatch (m l : Int) : Bool := inR m 0 3 && inR l 0 1
def seenOk (l a s g : Int) : Bool := inR a 0 23 && inR s 0 23 && inR g 0 l && decide (siz (trn s a) ≤ g)
def validW (m l a b sa sb ga gb : Int) : Bool := vWatch m l && seenOk l a sa ga && seenOk l b sb gb

set_option maxHeartbeats 400000 in
theorem isDirection_any (n : Int) (w : World) : Calls Try.prog 120 #[.int .i64 n] w fun e w' => e = .returned (.bool (inR n 0 23)) ∧ w' = w := by
  go_enter Try.func120, Try.ntmps120
  go_wp2_with (go_at_call 106; refine (within_any _ _ _ _).mono ?_; rintro e w' ⟨rfl, hw⟩; obtain rfl := hw.symm)
  go_ret
  exact ⟨rfl, rfl⟩

set_option maxHeartbeats 400000 in
theorem l02Dir_any (n : Int) (w : World) : Calls Try.prog 123 #[.int .i64 n] w fun e w' => e = .returned (.bool (inR n 0 23)) ∧ w' = w := by
  go_enter Try.func123, Try.ntmps123
  go_wp2_with (go_at_call 110; refine (l00In_any _ _ _ _).mono ?_; rintro e w' ⟨rfl, hw⟩; obtain rfl := hw.symm)
  go_ret
  exact ⟨rfl, rfl⟩

set_option maxHeartbeats 400000 in
theorem watchValid_any (m l : Int) (w : World) : Calls Try.prog 119 #[.agg #[.int .i64 m, .int .i64 l]] w fun e w' => e = .returned (.bool (vWatch m l)) ∧ Below w.heap.size w w' := by
  unfold vWatch
  cases e1 : inR m 0 3
  all_goals
    go_enter Try.func119, Try.ntmps119
    go_wp2_with (go_at_call 106; refine (within_any _ _ _ _).mono ?_; rintro e w' ⟨rfl, hw⟩; obtain rfl := hw.symm)
    go_ret
    exact ⟨rfl, (Below.refl _ _).alloc (Nat.le_refl _) _⟩

set_option maxHeartbeats 400000 in
theorem l19Watch_any (m l : Int) (w : World) : Calls Try.prog 175 #[.agg #[.int .i64 m, .int .i64 l]] w fun e w' => e = .returned (.bool (vWatch m l)) ∧ Below w.heap.size w w' := by
  unfold vWatch
  cases e1 : inR m 0 3
  all_goals
    go_enter Try.func175, Try.ntmps175
    go_wp2_with (go_at_call 110; refine (l00In_any _ _ _ _).mono ?_; rintro e w' ⟨rfl, hw⟩; obtain rfl := hw.symm)
    go_ret
    exact ⟨rfl, (Below.refl _ _).alloc (Nat.le_refl _) _⟩

set_option maxHeartbeats 1000000 in
theorem l19Seen_any (m l a s g : Int) (w : World) : Calls Try.prog 176 #[.agg #[.int .i64 m, .int .i64 l], .int .i64 a, .int .i64 s, .int .i64 g] w fun e w' => e = .returned (.bool (seenOk l a s g)) ∧ Below w.heap.size w w' := by
  unfold seenOk
  cases e1 : inR a 0 23
  · go_enter Try.func176, Try.ntmps176
    go_wp2_with (first | (go_at_call 123; refine (l02Dir_any _ _).mono ?_; rintro e w' ⟨rfl, hw⟩; obtain rfl := hw.symm) | (go_at_call 110; refine (l00In_any _ _ _ _).mono ?_; rintro e w' ⟨rfl, hw⟩; obtain rfl := hw.symm))
    go_ret
    exact ⟨rfl, (Below.refl _ _).alloc (Nat.le_refl _) _⟩
  cases e2 : inR s 0 23
  · go_enter Try.func176, Try.ntmps176
    go_wp2_with (first | (go_at_call 123; refine (l02Dir_any _ _).mono ?_; rintro e w' ⟨rfl, hw⟩; obtain rfl := hw.symm) | (go_at_call 110; refine (l00In_any _ _ _ _).mono ?_; rintro e w' ⟨rfl, hw⟩; obtain rfl := hw.symm))
    go_ret
    exact ⟨rfl, (Below.refl _ _).alloc (Nat.le_refl _) _⟩
  cases e3 : inR g 0 l
  · go_enter Try.func176, Try.ntmps176
    go_wp2_with (first | (go_at_call 123; refine (l02Dir_any _ _).mono ?_; rintro e w' ⟨rfl, hw⟩; obtain rfl := hw.symm) | (go_at_call 110; refine (l00In_any _ _ _ _).mono ?_; rintro e w' ⟨rfl, hw⟩; obtain rfl := hw.symm))
    go_ret
    exact ⟨rfl, (Below.refl _ _).alloc (Nat.le_refl _) _⟩
  · obtain ⟨a1, a2⟩ := inR_true e1
    obtain ⟨s1, s2⟩ := inR_true e2
    have t1 := trn_bd s a
    obtain ⟨t1, t2⟩ := t1
    by_cases h : siz (trn s a) ≤ g
    all_goals
      go_enter Try.func176, Try.ntmps176
      go_wp2_with (first | (go_at_call 123; refine (l02Dir_any _ _).mono ?_; rintro e w' ⟨rfl, hw⟩; obtain rfl := hw.symm) | (go_at_call 110; refine (l00In_any _ _ _ _).mono ?_; rintro e w' ⟨rfl, hw⟩; obtain rfl := hw.symm) | (go_at_call 112; refine (l02Turn_any _ _ (by omega) (by omega) (by omega) (by omega) _).mono ?_; rintro e w' ⟨rfl, hw⟩; obtain rfl := hw.symm) | (go_at_call 190; refine (l10Size_any _ (by omega) (by omega) _).mono ?_; rintro e w' ⟨rfl, hw⟩; obtain rfl := hw.symm))
      go_ret
      exact ⟨ret_bool (by simp [h]; try omega), (Below.refl _ _).alloc (Nat.le_refl _) _⟩

set_option maxHeartbeats 1000000 in
theorem l19Ok_any (m l a b sa sb ga gb : Int) (w : World) : Calls Try.prog 118 #[.agg #[.int .i64 m, .int .i64 l], .agg #[.int .i64 a, .int .i64 b, .int .i64 sa, .int .i64 sb, .int .i64 ga, .int .i64 gb]] w fun e w' => e = .returned (.bool (validW m l a b sa sb ga gb)) ∧ Below w.heap.size w w' := by
  unfold validW
  cases e1 : vWatch m l
  · go_enter Try.func118, Try.ntmps118
    go_wp2_with fail
    refine (l19Watch_any _ _ _).mono ?_
    rintro e w1 ⟨rfl, hb1⟩
    rw [e1]
    obtain ⟨hc1, hf1⟩ := bcell hb1
    have hs1 : w.heap.size + 1 < w1.heap.size := by have h := hb1.size; simp at h; omega
    have hs1' : w.heap.size < w1.heap.size := by omega
    go_wp2_with fail
    go_ret
    exact ⟨rfl, (((Below.refl _ _).alloc (Nat.le_refl _) _).alloc (by simp) _).trans (hb1.mono (by simp; omega))⟩
  cases e2 : seenOk l a sa ga
  · go_enter Try.func118, Try.ntmps118
    go_wp2_with fail
    refine (l19Watch_any _ _ _).mono ?_
    rintro e w1 ⟨rfl, hb1⟩
    rw [e1]
    obtain ⟨hc1, hf1⟩ := bcell hb1
    have hs1 : w.heap.size + 1 < w1.heap.size := by have h := hb1.size; simp at h; omega
    have hs1' : w.heap.size < w1.heap.size := by omega
    go_wp2_with fail
    refine (l19Seen_any _ _ _ _ _ _).mono ?_
    rintro e w2 ⟨rfl, hb2⟩
    rw [e2]
    obtain ⟨hc2, hf2⟩ := bcell hb2
    have hs2 := hb2.size
    go_wp2_with fail
    go_ret
    exact ⟨rfl, ((((Below.refl _ _).alloc (Nat.le_refl _) _).alloc (by simp) _).trans (hb1.mono (by simp; omega))).trans (hb2.mono (by omega))⟩
  · go_enter Try.func118, Try.ntmps118
    go_wp2_with fail
    refine (l19Watch_any _ _ _).mono ?_
    rintro e w1 ⟨rfl, hb1⟩
    rw [e1]
    obtain ⟨hc1, hf1⟩ := bcell hb1
    have hs1 : w.heap.size + 1 < w1.heap.size := by have h := hb1.size; simp at h; omega
    have hs1' : w.heap.size < w1.heap.size := by omega
    go_wp2_with fail
    refine (l19Seen_any _ _ _ _ _ _).mono ?_
    rintro e w2 ⟨rfl, hb2⟩
    rw [e2]
    obtain ⟨hc2, hf2⟩ := bcell hb2
    have hs2 := hb2.size
    go_wp2_with fail
    refine (l19Seen_any _ _ _ _ _ _).mono ?_
    rintro e w3 ⟨rfl, hb3⟩
    have hs3 := hb3.size
    go_wp2_with fail
    go_ret
    exact ⟨rfl, (((((Below.refl _ _).alloc (Nat.le_refl _) _).alloc (by simp) _).trans (hb1.mono (by simp; omega))).trans (hb2.mono (by omega))).trans (hb3.mono (by omega))⟩

set_option maxHeartbeats 400000 in
theorem specValidWorld_any (m l a b sa sb ga gb : Int) (w : World) : Calls Try.prog 35 #[.agg #[.int .i64 m, .int .i64 l], .agg #[.int .i64 a, .int .i64 b, .int .i64 sa, .int .i64 sb, .int .i64 ga, .int .i64 gb]] w fun e w' => e = .returned (.bool (validW m l a b sa sb ga gb)) ∧ Below w.heap.size w w' := by
  go_enter Try.func35, Try.ntmps35
  go_wp2_with fail
  refine (l19Ok_any _ _ _ _ _ _ _ _ _).mono ?_
  rintro e w1 ⟨rfl, hb1⟩
  go_wp2_with fail
  go_ret
  exact ⟨rfl, (((Below.refl _ _).alloc (Nat.le_refl _) _).alloc (by simp) _).trans (hb1.mono (by simp; omega))⟩

set_option maxHeartbeats 2000000 in
theorem implValidWorld_any (m l a b sa sb ga gb : Int) (w : World) : Calls Try.prog 38 #[.agg #[.int .i64 m, .int .i64 l], .agg #[.int .i64 a, .int .i64 b, .int .i64 sa, .int .i64 sb, .int .i64 ga, .int .i64 gb]] w fun e w' => e = .returned (.bool (validW m l a b sa sb ga gb)) ∧ Below w.heap.size w w' := by
  unfold validW seenOk
  cases e0 : vWatch m l
  · skip
    go_enter Try.func38, Try.ntmps38
    go_wp2_with fail
    refine (watchValid_any _ _ _).mono ?_
    rintro e w1 ⟨rfl, hb1⟩
    rw [e0]
    obtain ⟨hc1, hf1⟩ := bcell hb1
    have hs1 : w.heap.size + 1 < w1.heap.size := by have h := hb1.size; simp at h; omega
    have hs1' : w.heap.size < w1.heap.size := by omega
    go_wp2_with (first | (go_at_call 120; refine (isDirection_any _ _).mono ?_; rintro e w' ⟨rfl, hw⟩; obtain rfl := hw.symm) | (go_at_call 106; refine (within_any _ _ _ _).mono ?_; rintro e w' ⟨rfl, hw⟩; obtain rfl := hw.symm))
    go_ret
    exact ⟨ret_bool (by simp), (((Below.refl _ _).alloc (Nat.le_refl _) _).alloc (by simp) _).trans (hb1.mono (by simp; omega))⟩
  cases e1 : inR a 0 23
  · skip
    go_enter Try.func38, Try.ntmps38
    go_wp2_with fail
    refine (watchValid_any _ _ _).mono ?_
    rintro e w1 ⟨rfl, hb1⟩
    rw [e0]
    obtain ⟨hc1, hf1⟩ := bcell hb1
    have hs1 : w.heap.size + 1 < w1.heap.size := by have h := hb1.size; simp at h; omega
    have hs1' : w.heap.size < w1.heap.size := by omega
    go_wp2_with (first | (go_at_call 120; refine (isDirection_any _ _).mono ?_; rintro e w' ⟨rfl, hw⟩; obtain rfl := hw.symm) | (go_at_call 106; refine (within_any _ _ _ _).mono ?_; rintro e w' ⟨rfl, hw⟩; obtain rfl := hw.symm))
    go_ret
    exact ⟨ret_bool (by simp), (((Below.refl _ _).alloc (Nat.le_refl _) _).alloc (by simp) _).trans (hb1.mono (by simp; omega))⟩
  cases e2 : inR b 0 23
  · skip
    go_enter Try.func38, Try.ntmps38
    go_wp2_with fail
    refine (watchValid_any _ _ _).mono ?_
    rintro e w1 ⟨rfl, hb1⟩
    rw [e0]
    obtain ⟨hc1, hf1⟩ := bcell hb1
    have hs1 : w.heap.size + 1 < w1.heap.size := by have h := hb1.size; simp at h; omega
    have hs1' : w.heap.size < w1.heap.size := by omega
    go_wp2_with (first | (go_at_call 120; refine (isDirection_any _ _).mono ?_; rintro e w' ⟨rfl, hw⟩; obtain rfl := hw.symm) | (go_at_call 106; refine (within_any _ _ _ _).mono ?_; rintro e w' ⟨rfl, hw⟩; obtain rfl := hw.symm))
    go_ret
    exact ⟨ret_bool (by simp), (((Below.refl _ _).alloc (Nat.le_refl _) _).alloc (by simp) _).trans (hb1.mono (by simp; omega))⟩
  cases e3 : inR sa 0 23
  · skip
    go_enter Try.func38, Try.ntmps38
    go_wp2_with fail
    refine (watchValid_any _ _ _).mono ?_
    rintro e w1 ⟨rfl, hb1⟩
    rw [e0]
    obtain ⟨hc1, hf1⟩ := bcell hb1
    have hs1 : w.heap.size + 1 < w1.heap.size := by have h := hb1.size; simp at h; omega
    have hs1' : w.heap.size < w1.heap.size := by omega
    go_wp2_with (first | (go_at_call 120; refine (isDirection_any _ _).mono ?_; rintro e w' ⟨rfl, hw⟩; obtain rfl := hw.symm) | (go_at_call 106; refine (within_any _ _ _ _).mono ?_; rintro e w' ⟨rfl, hw⟩; obtain rfl := hw.symm))
    go_ret
    exact ⟨ret_bool (by simp), (((Below.refl _ _).alloc (Nat.le_refl _) _).alloc (by simp) _).trans (hb1.mono (by simp; omega))⟩
  cases e4 : inR sb 0 23
  · skip
    go_enter Try.func38, Try.ntmps38
    go_wp2_with fail
    refine (watchValid_any _ _ _).mono ?_
    rintro e w1 ⟨rfl, hb1⟩
    rw [e0]
    obtain ⟨hc1, hf1⟩ := bcell hb1
    have hs1 : w.heap.size + 1 < w1.heap.size := by have h := hb1.size; simp at h; omega
    have hs1' : w.heap.size < w1.heap.size := by omega
    go_wp2_with (first | (go_at_call 120; refine (isDirection_any _ _).mono ?_; rintro e w' ⟨rfl, hw⟩; obtain rfl := hw.symm) | (go_at_call 106; refine (within_any _ _ _ _).mono ?_; rintro e w' ⟨rfl, hw⟩; obtain rfl := hw.symm))
    go_ret
    exact ⟨ret_bool (by simp), (((Below.refl _ _).alloc (Nat.le_refl _) _).alloc (by simp) _).trans (hb1.mono (by simp; omega))⟩
  cases e5 : inR ga 0 l
  · skip
    go_enter Try.func38, Try.ntmps38
    go_wp2_with fail
    refine (watchValid_any _ _ _).mono ?_
    rintro e w1 ⟨rfl, hb1⟩
    rw [e0]
    obtain ⟨hc1, hf1⟩ := bcell hb1
    have hs1 : w.heap.size + 1 < w1.heap.size := by have h := hb1.size; simp at h; omega
    have hs1' : w.heap.size < w1.heap.size := by omega
    go_wp2_with (first | (go_at_call 120; refine (isDirection_any _ _).mono ?_; rintro e w' ⟨rfl, hw⟩; obtain rfl := hw.symm) | (go_at_call 106; refine (within_any _ _ _ _).mono ?_; rintro e w' ⟨rfl, hw⟩; obtain rfl := hw.symm))
    go_ret
    exact ⟨ret_bool (by simp), (((Below.refl _ _).alloc (Nat.le_refl _) _).alloc (by simp) _).trans (hb1.mono (by simp; omega))⟩
  cases e6 : inR gb 0 l
  · skip
    go_enter Try.func38, Try.ntmps38
    go_wp2_with fail
    refine (watchValid_any _ _ _).mono ?_
    rintro e w1 ⟨rfl, hb1⟩
    rw [e0]
    obtain ⟨hc1, hf1⟩ := bcell hb1
    have hs1 : w.heap.size + 1 < w1.heap.size := by have h := hb1.size; simp at h; omega
    have hs1' : w.heap.size < w1.heap.size := by omega
    go_wp2_with (first | (go_at_call 120; refine (isDirection_any _ _).mono ?_; rintro e w' ⟨rfl, hw⟩; obtain rfl := hw.symm) | (go_at_call 106; refine (within_any _ _ _ _).mono ?_; rintro e w' ⟨rfl, hw⟩; obtain rfl := hw.symm))
    go_ret
    exact ⟨ret_bool (by simp), (((Below.refl _ _).alloc (Nat.le_refl _) _).alloc (by simp) _).trans (hb1.mono (by simp; omega))⟩
  · obtain ⟨a1, a2⟩ := inR_true e1
    obtain ⟨b1, b2⟩ := inR_true e2
    obtain ⟨c1, c2⟩ := inR_true e3
    obtain ⟨d1, d2⟩ := inR_true e4
    obtain ⟨t1, t2⟩ := trn_bd sa a
    obtain ⟨u1, u2⟩ := trn_bd sb b
    simp only [Bool.true_and]
    by_cases h1 : siz (trn sa a) ≤ ga
    · have k1 : decide (siz (trn sa a) ≤ ga) = true := by simpa using h1
      rw [k1]
      simp only [Bool.true_and]
      go_enter Try.func38, Try.ntmps38
      go_wp2_with fail
      refine (watchValid_any _ _ _).mono ?_
      rintro e w1 ⟨rfl, hb1⟩
      rw [e0]
      obtain ⟨hc1, hf1⟩ := bcell hb1
      have hs1 : w.heap.size + 1 < w1.heap.size := by have h := hb1.size; simp at h; omega
      have hs1' : w.heap.size < w1.heap.size := by omega
      go_wp2_with (first | (go_at_call 120; refine (isDirection_any _ _).mono ?_; rintro e w' ⟨rfl, hw⟩; obtain rfl := hw.symm) | (go_at_call 106; refine (within_any _ _ _ _).mono ?_; rintro e w' ⟨rfl, hw⟩; obtain rfl := hw.symm))
      go_quiet ((first | (go_at_call 108; exact Calls.quiet_of_same (turnBetween_any _ _ (by omega) (by omega) (by omega) (by omega) _)) | (go_at_call 121; exact Calls.quiet_of_same (abs_any _ (by omega) (by omega) _))))
      go_wp2_with fail
      go_ret
      exact ⟨rfl, ((((Below.refl _ _).alloc (Nat.le_refl _) _).alloc (by simp) _).trans (hb1.mono (by simp; omega))).trans (Joins.below_draws _ _ _)⟩
    · have k1 : decide (siz (trn sa a) ≤ ga) = false := by simpa using h1
      rw [k1]
      simp only [Bool.false_and]
      go_enter Try.func38, Try.ntmps38
      go_wp2_with fail
      refine (watchValid_any _ _ _).mono ?_
      rintro e w1 ⟨rfl, hb1⟩
      rw [e0]
      obtain ⟨hc1, hf1⟩ := bcell hb1
      have hs1 : w.heap.size + 1 < w1.heap.size := by have h := hb1.size; simp at h; omega
      have hs1' : w.heap.size < w1.heap.size := by omega
      go_wp2_with (first | (go_at_call 120; refine (isDirection_any _ _).mono ?_; rintro e w' ⟨rfl, hw⟩; obtain rfl := hw.symm) | (go_at_call 106; refine (within_any _ _ _ _).mono ?_; rintro e w' ⟨rfl, hw⟩; obtain rfl := hw.symm))
      go_quiet ((first | (go_at_call 108; exact Calls.quiet_of_same (turnBetween_any _ _ (by omega) (by omega) (by omega) (by omega) _)) | (go_at_call 121; exact Calls.quiet_of_same (abs_any _ (by omega) (by omega) _))))
      go_wp2_with fail
      go_ret
      exact ⟨rfl, ((((Below.refl _ _).alloc (Nat.le_refl _) _).alloc (by simp) _).trans (hb1.mono (by simp; omega))).trans (Joins.below_draws _ _ _)⟩

end Go.Proofs.Ytdephdfhopbjpaa
