/-
  IsUnsafeAct: the reference's and the program's. No condition but those that each theorem names.
-/
import Derived.Test.YtnhlobjekmjagaaUnsafe
import Derived.Test.YtnhlobjekmjagaaVWorld
namespace Go.Proofs.Ytnhlobjekmjagaa
open Go.RowKit
set_option linter.unusedVariables false

def isU (T : List (List Bool)) (a b ta tb : Int) : Bool := okT T && (inR a 0 23 && (inR b 0 23 && (inR ta (-1) 1 && (inR tb (-1) 1 && unsafeV T a b ta tb))))

set_option maxHeartbeats 400000 in
theorem l19Turn_any (n : Int) (w : World) : Calls Try.prog 67 #[.int .i64 n] w fun e w' => e = .returned (.bool (inR n (-1) 1)) ∧ w' = w := by
  go_enter Try.func67, Try.ntmps67
  go_wp2_with (go_at_call 82; refine (l00In_any _ _ _ _).mono ?_; rintro e w' ⟨rfl, hw⟩; obtain rfl := hw.symm)
  go_ret
  exact ⟨rfl, rfl⟩

set_option maxHeartbeats 400000 in
theorem isTurn_any (n : Int) (w : World) : Calls Try.prog 106 #[.int .i64 n] w fun e w' => e = .returned (.bool (inR n (-1) 1)) ∧ w' = w := by
  go_enter Try.func106, Try.ntmps106
  go_wp2_with (go_at_call 84; refine (within_any _ _ _ _).mono ?_; rintro e w' ⟨rfl, hw⟩; obtain rfl := hw.symm)
  go_ret
  exact ⟨rfl, rfl⟩

set_option maxHeartbeats 400000 in
theorem turnsOk_any (ta tb : Int) (ea eb : Bool) (w : World) : Calls Try.prog 72 #[.agg #[.int .i64 ta, .int .i64 tb, .bool ea, .bool eb]] w fun e w' => e = .returned (.bool (inR ta (-1) 1 && inR tb (-1) 1)) ∧ Below w.heap.size w w' := by
  cases e0 : inR ta (-1) 1
  all_goals
    go_enter Try.func72, Try.ntmps72
    go_wp2_with (go_at_call 106; refine (isTurn_any _ _).mono ?_; rintro e w' ⟨rfl, hw⟩; obtain rfl := hw.symm)
    go_ret
    exact ⟨ret_bool (by simp), (Below.refl _ _).alloc (Nat.le_refl _) _⟩

set_option maxRecDepth 100000 in
set_option maxHeartbeats 4000000 in
theorem specIsUnsafeAct_any (A : Option Addr) (n c lo hi : Nat) (T : List (List Bool)) (hm : n ≤ maxLen) (a b sa sb ga gb ta tb : Int) (ea eb : Bool) (w : World) (h : RdSS w lo hi A n (rrBool T)) (hhi : hi ≤ w.heap.size) :
    Calls Try.prog 17 #[.slice A n c, .agg #[.int .i64 a, .int .i64 b, .int .i64 sa, .int .i64 sb, .int .i64 ga, .int .i64 gb], .agg #[.int .i64 ta, .int .i64 tb, .bool ea, .bool eb]] w fun e w' => e = .returned (.bool (isU T a b ta tb)) ∧ Below w.heap.size w w' := by
  have H2 := hide h
  clear h
  have BB : ∀ o1 o2 : Obj, Below w.heap.size w ((w.alloc o1).alloc o2) := fun o1 o2 => ((Below.refl _ _).alloc (Nat.le_refl _) _).alloc (by simp) _
  have H3 : ∀ o1 o2 : Obj, RdSS ((w.alloc o1).alloc o2) lo hi A n (rrBool T) := fun o1 o2 => H2.out.below (BB o1 o2) hhi
  have HB := hide BB
  have HR := hide H3
  clear BB H3
  unfold isU
  cases e0 : okT T
  · skip
    go_enter Try.func17, Try.ntmps17
    go_wp2_with (first | (go_at_call 65; refine (l15Ok_any A n c lo hi T hm _ (HR.out _ _)).mono ?_; rintro e w' ⟨rfl, hw⟩; obtain rfl := hw.symm) | (go_at_call 66; refine (l02Dir_any _ _).mono ?_; rintro e w' ⟨rfl, hw⟩; obtain rfl := hw.symm) | (go_at_call 67; refine (l19Turn_any _ _).mono ?_; rintro e w' ⟨rfl, hw⟩; obtain rfl := hw.symm))
    go_ret
    exact ⟨ret_bool (by simp), HB.out _ _⟩
  cases e1 : inR a 0 23
  · skip
    go_enter Try.func17, Try.ntmps17
    go_wp2_with (first | (go_at_call 65; refine (l15Ok_any A n c lo hi T hm _ (HR.out _ _)).mono ?_; rintro e w' ⟨rfl, hw⟩; obtain rfl := hw.symm) | (go_at_call 66; refine (l02Dir_any _ _).mono ?_; rintro e w' ⟨rfl, hw⟩; obtain rfl := hw.symm) | (go_at_call 67; refine (l19Turn_any _ _).mono ?_; rintro e w' ⟨rfl, hw⟩; obtain rfl := hw.symm))
    go_ret
    exact ⟨ret_bool (by simp), HB.out _ _⟩
  cases e2 : inR b 0 23
  · skip
    go_enter Try.func17, Try.ntmps17
    go_wp2_with (first | (go_at_call 65; refine (l15Ok_any A n c lo hi T hm _ (HR.out _ _)).mono ?_; rintro e w' ⟨rfl, hw⟩; obtain rfl := hw.symm) | (go_at_call 66; refine (l02Dir_any _ _).mono ?_; rintro e w' ⟨rfl, hw⟩; obtain rfl := hw.symm) | (go_at_call 67; refine (l19Turn_any _ _).mono ?_; rintro e w' ⟨rfl, hw⟩; obtain rfl := hw.symm))
    go_ret
    exact ⟨ret_bool (by simp), HB.out _ _⟩
  cases e3 : inR ta (-1) 1
  · skip
    go_enter Try.func17, Try.ntmps17
    go_wp2_with (first | (go_at_call 65; refine (l15Ok_any A n c lo hi T hm _ (HR.out _ _)).mono ?_; rintro e w' ⟨rfl, hw⟩; obtain rfl := hw.symm) | (go_at_call 66; refine (l02Dir_any _ _).mono ?_; rintro e w' ⟨rfl, hw⟩; obtain rfl := hw.symm) | (go_at_call 67; refine (l19Turn_any _ _).mono ?_; rintro e w' ⟨rfl, hw⟩; obtain rfl := hw.symm))
    go_ret
    exact ⟨ret_bool (by simp), HB.out _ _⟩
  cases e4 : inR tb (-1) 1
  · skip
    go_enter Try.func17, Try.ntmps17
    go_wp2_with (first | (go_at_call 65; refine (l15Ok_any A n c lo hi T hm _ (HR.out _ _)).mono ?_; rintro e w' ⟨rfl, hw⟩; obtain rfl := hw.symm) | (go_at_call 66; refine (l02Dir_any _ _).mono ?_; rintro e w' ⟨rfl, hw⟩; obtain rfl := hw.symm) | (go_at_call 67; refine (l19Turn_any _ _).mono ?_; rintro e w' ⟨rfl, hw⟩; obtain rfl := hw.symm))
    go_ret
    exact ⟨ret_bool (by simp), HB.out _ _⟩
  obtain ⟨a1, a2⟩ := inR_true e1
  obtain ⟨b1, b2⟩ := inR_true e2
  obtain ⟨c1, c2⟩ := inR_true e3
  obtain ⟨d1, d2⟩ := inR_true e4
  simp only [Bool.true_and]
  go_enter Try.func17, Try.ntmps17
  go_wp2_with (first | (go_at_call 65; refine (l15Ok_any A n c lo hi T hm _ (HR.out _ _)).mono ?_; rintro e w' ⟨rfl, hw⟩; obtain rfl := hw.symm) | (go_at_call 66; refine (l02Dir_any _ _).mono ?_; rintro e w' ⟨rfl, hw⟩; obtain rfl := hw.symm) | (go_at_call 67; refine (l19Turn_any _ _).mono ?_; rintro e w' ⟨rfl, hw⟩; obtain rfl := hw.symm) | (go_at_call 68; refine (l19Unsafe_any A n c lo hi T e0 a b sa sb ga gb ta tb ea eb a1 a2 b1 b2 c1 c2 d1 d2 _ (HR.out _ _) (by simp; omega)).mono ?_; rintro e w1 ⟨rfl, hb1⟩))
  go_ret
  exact ⟨rfl, (HB.out _ _).trans (hb1.mono (by simp; omega))⟩

set_option maxRecDepth 100000 in
set_option maxHeartbeats 4000000 in
theorem implIsUnsafeAct_any (A : Option Addr) (n c lo hi : Nat) (T : List (List Bool)) (hm : n ≤ maxLen) (a b sa sb ga gb ta tb : Int) (ea eb : Bool) (w : World) (h : RdSS w lo hi A n (rrBool T)) (hhi : hi ≤ w.heap.size) :
    Calls Try.prog 21 #[.slice A n c, .agg #[.int .i64 a, .int .i64 b, .int .i64 sa, .int .i64 sb, .int .i64 ga, .int .i64 gb], .agg #[.int .i64 ta, .int .i64 tb, .bool ea, .bool eb]] w fun e w' => e = .returned (.bool (isU T a b ta tb)) ∧ Below w.heap.size w w' := by
  have H2 := hide h
  clear h
  have BB : ∀ o1 o2 : Obj, Below w.heap.size w ((w.alloc o1).alloc o2) := fun o1 o2 => ((Below.refl _ _).alloc (Nat.le_refl _) _).alloc (by simp) _
  have H3 : ∀ o1 o2 : Obj, RdSS ((w.alloc o1).alloc o2) lo hi A n (rrBool T) := fun o1 o2 => H2.out.below (BB o1 o2) hhi
  have HB := hide BB
  have HR := hide H3
  clear BB H3
  unfold isU
  cases e0 : okT T
  · skip
    go_enter Try.func21, Try.ntmps21
    go_wp2_with (first | (go_at_call 70; refine (implValidTable_any A n c lo hi T hm _ (HR.out _ _)).mono ?_; rintro e w' ⟨rfl, hw⟩; obtain rfl := hw.symm) | (go_at_call 71; refine (isDirection_any _ _).mono ?_; rintro e w' ⟨rfl, hw⟩; obtain rfl := hw.symm) | (go_at_call 72; refine (turnsOk_any _ _ _ _ _).mono ?_; rintro e w1 ⟨rfl, hb1⟩; simp only [EE]; obtain ⟨hc1, hf1⟩ := bcell hb1; have hs1 : w.heap.size + 1 < w1.heap.size := (by have h := hb1.size; simp at h; omega); have hs2 : w.heap.size < w1.heap.size := (by omega); have HQ := hide (H2.out.below ((HB.out _ _).trans (hb1.mono (by simp; omega))) hhi)))
    go_ret
    exact ⟨ret_bool (by simp), HB.out _ _⟩
  cases e1 : inR a 0 23
  · skip
    go_enter Try.func21, Try.ntmps21
    go_wp2_with (first | (go_at_call 70; refine (implValidTable_any A n c lo hi T hm _ (HR.out _ _)).mono ?_; rintro e w' ⟨rfl, hw⟩; obtain rfl := hw.symm) | (go_at_call 71; refine (isDirection_any _ _).mono ?_; rintro e w' ⟨rfl, hw⟩; obtain rfl := hw.symm) | (go_at_call 72; refine (turnsOk_any _ _ _ _ _).mono ?_; rintro e w1 ⟨rfl, hb1⟩; simp only [EE]; obtain ⟨hc1, hf1⟩ := bcell hb1; have hs1 : w.heap.size + 1 < w1.heap.size := (by have h := hb1.size; simp at h; omega); have hs2 : w.heap.size < w1.heap.size := (by omega); have HQ := hide (H2.out.below ((HB.out _ _).trans (hb1.mono (by simp; omega))) hhi)))
    go_ret
    exact ⟨ret_bool (by simp), HB.out _ _⟩
  cases e2 : inR b 0 23
  · skip
    go_enter Try.func21, Try.ntmps21
    go_wp2_with (first | (go_at_call 70; refine (implValidTable_any A n c lo hi T hm _ (HR.out _ _)).mono ?_; rintro e w' ⟨rfl, hw⟩; obtain rfl := hw.symm) | (go_at_call 71; refine (isDirection_any _ _).mono ?_; rintro e w' ⟨rfl, hw⟩; obtain rfl := hw.symm) | (go_at_call 72; refine (turnsOk_any _ _ _ _ _).mono ?_; rintro e w1 ⟨rfl, hb1⟩; simp only [EE]; obtain ⟨hc1, hf1⟩ := bcell hb1; have hs1 : w.heap.size + 1 < w1.heap.size := (by have h := hb1.size; simp at h; omega); have hs2 : w.heap.size < w1.heap.size := (by omega); have HQ := hide (H2.out.below ((HB.out _ _).trans (hb1.mono (by simp; omega))) hhi)))
    go_ret
    exact ⟨ret_bool (by simp), HB.out _ _⟩
  cases e3 : inR ta (-1) 1
  · skip
    go_enter Try.func21, Try.ntmps21
    go_wp2_with (first | (go_at_call 70; refine (implValidTable_any A n c lo hi T hm _ (HR.out _ _)).mono ?_; rintro e w' ⟨rfl, hw⟩; obtain rfl := hw.symm) | (go_at_call 71; refine (isDirection_any _ _).mono ?_; rintro e w' ⟨rfl, hw⟩; obtain rfl := hw.symm) | (go_at_call 72; refine (turnsOk_any _ _ _ _ _).mono ?_; rintro e w1 ⟨rfl, hb1⟩; simp only [e3, Bool.false_and]; obtain ⟨hc1, hf1⟩ := bcell hb1; have hs1 : w.heap.size + 1 < w1.heap.size := (by have h := hb1.size; simp at h; omega); have hs2 : w.heap.size < w1.heap.size := (by omega); have HQ := hide (H2.out.below ((HB.out _ _).trans (hb1.mono (by simp; omega))) hhi)))
    go_ret
    exact ⟨ret_bool (by simp), (HB.out _ _).trans (hb1.mono (by simp; omega))⟩
  cases e4 : inR tb (-1) 1
  · skip
    go_enter Try.func21, Try.ntmps21
    go_wp2_with (first | (go_at_call 70; refine (implValidTable_any A n c lo hi T hm _ (HR.out _ _)).mono ?_; rintro e w' ⟨rfl, hw⟩; obtain rfl := hw.symm) | (go_at_call 71; refine (isDirection_any _ _).mono ?_; rintro e w' ⟨rfl, hw⟩; obtain rfl := hw.symm) | (go_at_call 72; refine (turnsOk_any _ _ _ _ _).mono ?_; rintro e w1 ⟨rfl, hb1⟩; simp only [e3, e4, Bool.true_and]; obtain ⟨hc1, hf1⟩ := bcell hb1; have hs1 : w.heap.size + 1 < w1.heap.size := (by have h := hb1.size; simp at h; omega); have hs2 : w.heap.size < w1.heap.size := (by omega); have HQ := hide (H2.out.below ((HB.out _ _).trans (hb1.mono (by simp; omega))) hhi)))
    go_ret
    exact ⟨ret_bool (by simp), (HB.out _ _).trans (hb1.mono (by simp; omega))⟩
  obtain ⟨a1, a2⟩ := inR_true e1
  obtain ⟨b1, b2⟩ := inR_true e2
  obtain ⟨c1, c2⟩ := inR_true e3
  obtain ⟨d1, d2⟩ := inR_true e4
  simp only [Bool.true_and]
  go_enter Try.func21, Try.ntmps21
  go_wp2_with (first | (go_at_call 70; refine (implValidTable_any A n c lo hi T hm _ (HR.out _ _)).mono ?_; rintro e w' ⟨rfl, hw⟩; obtain rfl := hw.symm) | (go_at_call 71; refine (isDirection_any _ _).mono ?_; rintro e w' ⟨rfl, hw⟩; obtain rfl := hw.symm) | (go_at_call 72; refine (turnsOk_any _ _ _ _ _).mono ?_; rintro e w1 ⟨rfl, hb1⟩; simp only [e3, e4, Bool.true_and]; obtain ⟨hc1, hf1⟩ := bcell hb1; have hs1 : w.heap.size + 1 < w1.heap.size := (by have h := hb1.size; simp at h; omega); have hs2 : w.heap.size < w1.heap.size := (by omega); have HQ := hide (H2.out.below ((HB.out _ _).trans (hb1.mono (by simp; omega))) hhi)) | (go_at_call 73; refine (implUnsafe_any A n c lo hi T e0 a b sa sb ga gb ta tb ea eb a1 a2 b1 b2 c1 c2 d1 d2 _ HQ.out (by omega)).mono ?_; rintro e w2 ⟨rfl, hb2⟩))
  go_ret
  exact ⟨rfl, ((HB.out _ _).trans (hb1.mono (by simp; omega))).trans (hb2.mono (by omega))⟩

end Go.Proofs.Ytnhlobjekmjagaa
