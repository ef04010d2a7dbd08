/-
  IS AN ACT UNSAFE: the reference's and the program's. No condition but those that each theorem names.
-/
import Derived.Test.YtnhlobjekmjagaaTabOk
import Derived.Test.YtnhlobjekmjagaaTurn
import Derived.Test.YtnhlobjekmjagaaStructs
import Derived.BigQuiet
import Derived.Lib.SmallJoins
namespace Go.Proofs.Ytnhlobjekmjagaa
open Go.RowKit
set_option linter.unusedVariables false

def unsafeV (T : List (List Bool)) (a b ta tb : Int) : Bool :=
  tg T ((a + ta) % 24) ((b + tb) % 24) || (!(ta == 0) && (!(tb == 0) && (tg T ((a + ta) % 24) b || tg T a ((b + tb) % 24))))
theorem tg_nat (T : List (List Bool)) (i j : Nat) : tg T i j = (T.getD i []).getD j false := by simp [tg]

set_option maxRecDepth 100000 in
set_option maxHeartbeats 4000000 in
theorem l19Unsafe_any (A : Option Addr) (n c lo hi : Nat) (T : List (List Bool)) (ok : okT T = true) (a b sa sb ga gb ta tb : Int) (ea eb : Bool) (ha0 : 0 ≤ a) (ha1 : a ≤ 23) (hb0 : 0 ≤ b) (hb1 : b ≤ 23) (hta0 : -1 ≤ ta) (hta1 : ta ≤ 1) (htb0 : -1 ≤ tb) (htb1 : tb ≤ 1) (w : World) (h : RdSS w lo hi A n (rrBool T)) (hhi : hi ≤ w.heap.size) :
    Calls Try.prog 68 #[.slice A n c, .agg #[.int .i64 a, .int .i64 b, .int .i64 sa, .int .i64 sb, .int .i64 ga, .int .i64 gb], .agg #[.int .i64 ta, .int .i64 tb, .bool ea, .bool eb]] w fun e w' => e = .returned (.bool (unsafeV T a b ta tb)) ∧ Below w.heap.size w w' := by
  obtain ⟨ka, rfl⟩ : ∃ k : Nat, a = k := ⟨a.toNat, by omega⟩
  obtain ⟨kb, rfl⟩ : ∃ k : Nat, b = k := ⟨b.toNat, by omega⟩
  obtain ⟨ma, hma, hma2⟩ : ∃ m : Nat, ((ka : Int) + ta) % 24 = m ∧ m < 24 := ⟨(((ka : Int) + ta) % 24).toNat, by omega, by omega⟩
  obtain ⟨mb, hmb, hmb2⟩ : ∃ m : Nat, ((kb : Int) + tb) % 24 = m ∧ m < 24 := ⟨(((kb : Int) + tb) % 24).toNat, by omega, by omega⟩
  have hn : n = 24 := by have := h.length; rw [rrBool_len, okT_len ok] at this; omega
  subst hn
  obtain ⟨b0, o0, ba, oa, ca, hA, l1, l2, m1, m2, hcA, hrA⟩ := tab_cells h ok ma hma2
  obtain ⟨b0', o0', bk, ok', ck, hA', _, _, m3, m4, hcK, hrK⟩ := tab_cells h ok ka (by omega)
  subst hA
  obtain ⟨rfl, rfl⟩ : b0 = b0' ∧ o0 = o0' := by simpa using hA'
  have hv1 := hrA mb hmb2
  have hv2 := hrA kb (by omega)
  have hv3 := hrK mb hmb2
  unfold unsafeV
  rw [hma, hmb, tg_nat, tg_nat, tg_nat]
  clear hA' hrA hrK h ok
  have g1 : b0 < w.heap.size := by omega
  have g2 : ba < w.heap.size := by omega
  have g3 : bk < w.heap.size := by omega
  generalize (T.getD ma []).getD mb false = v1 at *
  generalize (T.getD ma []).getD kb false = v2 at *
  generalize (T.getD ka []).getD mb false = v3 at *
  cases v1
  case true =>
    go_enter Try.func68, Try.ntmps68
    go_wp2_with (go_at_call 103; refine (l02Mod_any _ (by omega) (by omega) _).mono ?_; rintro e w' ⟨rfl, hw⟩; obtain rfl := hw.symm; first | rw [hma] | rw [hmb])
    go_ret
    exact ⟨ret_bool (by simp), (((Below.refl _ _).alloc (Nat.le_refl _) _).alloc (by simp) _)⟩
  cases hz1 : (ta == 0)
  case true =>
    obtain rfl : ta = 0 := by simpa using hz1
    rw [Int.add_zero] at hma
    go_enter Try.func68, Try.ntmps68
    go_wp2_with (go_at_call 103; refine (l02Mod_any _ (by omega) (by omega) _).mono ?_; rintro e w' ⟨rfl, hw⟩; obtain rfl := hw.symm; first | rw [hma] | rw [hmb])
    go_quiet (fail)
    go_wp2_with fail
    go_ret
    exact ⟨ret_bool (by simp), Below.trans (((Below.refl _ _).alloc (Nat.le_refl _) _).alloc (by simp) _) (Joins.below_draws _ _ _)⟩
  have hq1 : (ta != 0) = true := by simpa using hz1
  cases hz2 : (tb == 0)
  case true =>
    obtain rfl : tb = 0 := by simpa using hz2
    rw [Int.add_zero] at hmb
    go_enter Try.func68, Try.ntmps68
    go_wp2_with (go_at_call 103; refine (l02Mod_any _ (by omega) (by omega) _).mono ?_; rintro e w' ⟨rfl, hw⟩; obtain rfl := hw.symm; first | rw [hma] | rw [hmb])
    go_quiet (fail)
    go_wp2_with fail
    go_ret
    exact ⟨ret_bool (by simp), Below.trans (((Below.refl _ _).alloc (Nat.le_refl _) _).alloc (by simp) _) (Joins.below_draws _ _ _)⟩
  have hq2 : (tb != 0) = true := by simpa using hz2
  cases v2
  case true =>
    go_enter Try.func68, Try.ntmps68
    go_wp2_with (go_at_call 103; refine (l02Mod_any _ (by omega) (by omega) _).mono ?_; rintro e w' ⟨rfl, hw⟩; obtain rfl := hw.symm; first | rw [hma] | rw [hmb])
    go_quiet (fail)
    go_wp2_with fail
    go_ret
    exact ⟨ret_bool (by simp), Below.trans (((Below.refl _ _).alloc (Nat.le_refl _) _).alloc (by simp) _) (Joins.below_draws _ _ _)⟩
  cases v3
  all_goals
    go_enter Try.func68, Try.ntmps68
    go_wp2_with (go_at_call 103; refine (l02Mod_any _ (by omega) (by omega) _).mono ?_; rintro e w' ⟨rfl, hw⟩; obtain rfl := hw.symm; first | rw [hma] | rw [hmb])
    go_quiet (fail)
    go_wp2_with fail
    go_ret
    exact ⟨ret_bool (by simp), Below.trans (((Below.refl _ _).alloc (Nat.le_refl _) _).alloc (by simp) _) (Joins.below_draws _ _ _)⟩

set_option maxRecDepth 100000 in
set_option maxHeartbeats 4000000 in
theorem implUnsafe_any (A : Option Addr) (n c lo hi : Nat) (T : List (List Bool)) (ok : okT T = true) (a b sa sb ga gb ta tb : Int) (ea eb : Bool) (ha0 : 0 ≤ a) (ha1 : a ≤ 23) (hb0 : 0 ≤ b) (hb1 : b ≤ 23) (hta0 : -1 ≤ ta) (hta1 : ta ≤ 1) (htb0 : -1 ≤ tb) (htb1 : tb ≤ 1) (w : World) (h : RdSS w lo hi A n (rrBool T)) (hhi : hi ≤ w.heap.size) :
    Calls Try.prog 73 #[.agg #[.int .i64 a, .int .i64 b, .int .i64 sa, .int .i64 sb, .int .i64 ga, .int .i64 gb], .slice A n c, .agg #[.int .i64 ta, .int .i64 tb, .bool ea, .bool eb]] w fun e w' => e = .returned (.bool (unsafeV T a b ta tb)) ∧ Below w.heap.size w w' := by
  obtain ⟨ka, rfl⟩ : ∃ k : Nat, a = k := ⟨a.toNat, by omega⟩
  obtain ⟨kb, rfl⟩ : ∃ k : Nat, b = k := ⟨b.toNat, by omega⟩
  obtain ⟨ma, hma, hma2⟩ : ∃ m : Nat, ((ka : Int) + ta) % 24 = m ∧ m < 24 := ⟨(((ka : Int) + ta) % 24).toNat, by omega, by omega⟩
  obtain ⟨mb, hmb, hmb2⟩ : ∃ m : Nat, ((kb : Int) + tb) % 24 = m ∧ m < 24 := ⟨(((kb : Int) + tb) % 24).toNat, by omega, by omega⟩
  have hn : n = 24 := by have := h.length; rw [rrBool_len, okT_len ok] at this; omega
  subst hn
  obtain ⟨b0, o0, ba, oa, ca, hA, l1, l2, m1, m2, hcA, hrA⟩ := tab_cells h ok ma hma2
  obtain ⟨b0', o0', bk, ok', ck, hA', _, _, m3, m4, hcK, hrK⟩ := tab_cells h ok ka (by omega)
  subst hA
  obtain ⟨rfl, rfl⟩ : b0 = b0' ∧ o0 = o0' := by simpa using hA'
  have hv1 := hrA mb hmb2
  have hv2 := hrA kb (by omega)
  have hv3 := hrK mb hmb2
  have ht1 : tur ka ta = ma := hma
  have ht2 : tur kb tb = mb := hmb
  unfold unsafeV
  rw [hma, hmb, tg_nat, tg_nat, tg_nat]
  clear hA' hrA hrK h ok
  have g1 : b0 < w.heap.size := by omega
  have g2 : ba < w.heap.size := by omega
  have g3 : bk < w.heap.size := by omega
  generalize (T.getD ma []).getD mb false = v1 at *
  generalize (T.getD ma []).getD kb false = v2 at *
  generalize (T.getD ka []).getD mb false = v3 at *
  cases v1
  case true =>
    go_enter Try.func73, Try.ntmps73
    go_wp2_with fail
    go_quiet ((go_at_call 107; exact Calls.quiet_of_same (turned_any _ _ (by omega) (by omega) (by omega) (by omega) _)))
    go_wp2_with fail
    go_quiet (fail)
    go_wp2_with fail
    go_ret
    exact ⟨ret_bool (by simp), Below.trans (Below.trans (((Below.refl _ _).alloc (Nat.le_refl _) _).alloc (by simp) _) (Joins.below_draws _ _ _)) (Joins.below_draws _ _ _)⟩
  cases hz1 : (ta == 0)
  case true =>
    obtain rfl : ta = 0 := by simpa using hz1
    rw [Int.add_zero] at hma
    go_enter Try.func73, Try.ntmps73
    go_wp2_with fail
    go_quiet ((go_at_call 107; exact Calls.quiet_of_same (turned_any _ _ (by omega) (by omega) (by omega) (by omega) _)))
    go_wp2_with fail
    go_quiet (fail)
    go_wp2_with fail
    go_ret
    exact ⟨ret_bool (by simp), Below.trans (Below.trans (((Below.refl _ _).alloc (Nat.le_refl _) _).alloc (by simp) _) (Joins.below_draws _ _ _)) (Joins.below_draws _ _ _)⟩
  have hq1 : (ta != 0) = true := by simpa using hz1
  cases hz2 : (tb == 0)
  case true =>
    obtain rfl : tb = 0 := by simpa using hz2
    rw [Int.add_zero] at hmb
    go_enter Try.func73, Try.ntmps73
    go_wp2_with fail
    go_quiet ((go_at_call 107; exact Calls.quiet_of_same (turned_any _ _ (by omega) (by omega) (by omega) (by omega) _)))
    go_wp2_with fail
    go_quiet (fail)
    go_wp2_with fail
    go_ret
    exact ⟨ret_bool (by simp), Below.trans (Below.trans (((Below.refl _ _).alloc (Nat.le_refl _) _).alloc (by simp) _) (Joins.below_draws _ _ _)) (Joins.below_draws _ _ _)⟩
  have hq2 : (tb != 0) = true := by simpa using hz2
  cases v2
  case true =>
    go_enter Try.func73, Try.ntmps73
    go_wp2_with fail
    go_quiet ((go_at_call 107; exact Calls.quiet_of_same (turned_any _ _ (by omega) (by omega) (by omega) (by omega) _)))
    go_wp2_with fail
    go_quiet (fail)
    go_wp2_with fail
    go_ret
    exact ⟨ret_bool (by simp), Below.trans (Below.trans (((Below.refl _ _).alloc (Nat.le_refl _) _).alloc (by simp) _) (Joins.below_draws _ _ _)) (Joins.below_draws _ _ _)⟩
  cases v3
  all_goals
    go_enter Try.func73, Try.ntmps73
    go_wp2_with fail
    go_quiet ((go_at_call 107; exact Calls.quiet_of_same (turned_any _ _ (by omega) (by omega) (by omega) (by omega) _)))
    go_wp2_with fail
    go_quiet (fail)
    go_wp2_with fail
    go_ret
    exact ⟨ret_bool (by simp), Below.trans (Below.trans (((Below.refl _ _).alloc (Nat.le_refl _) _).alloc (by simp) _) (Joins.below_draws _ _ _)) (Joins.below_draws _ _ _)⟩

end Go.Proofs.Ytnhlobjekmjagaa
