/-
  FRACTIONS of the program, exactly: the library's Mul64, Compare and Or; comparing; products, signs. No condition but those that each theorem names.
-/
import Derived.Test.YtajjophmngabbaaGreatDoorGx
import Derived.Test.YtajjophmngabbaaGreatDoorBox
import Derived.Lib.Mul64
import Derived.Laws.Bits64b
namespace Go.Proofs.YtajjophmngabbaaGreatDoor
open Go.RowKit Go.Lib
set_option linter.unusedVariables false
set_option linter.unusedSimpArgs false

theorem maskN (a : Nat) (ha : a < 18446744073709551616) : bits .and .u64 (a : Int) 4294967295 = ((a % 4294967296 : Nat) : Int) := by
  have h := bits_and_u64_nat a 4294967295 ha (by omega)
  have e : a &&& 4294967295 = a % 4294967296 := Nat.and_two_pow_sub_one_eq_mod a 32
  rw [e] at h
  exact h
theorem divN (a : Nat) : (a : Int) / 4294967296 = ((a / 4294967296 : Nat) : Int) := by omega
theorem mulN (a b : Nat) : (a : Int) * (b : Int) = ((a * b : Nat) : Int) := (Int.natCast_mul a b).symm
theorem addN (a b : Nat) : (a : Int) + (b : Int) = ((a + b : Nat) : Int) := (Int.natCast_add a b).symm
theorem wrapN (a : Nat) (ha : a < 18446744073709551616) : IntKind.u64.wrap (a : Int) = (a : Int) := by rw [IntKind.wrap_u64]; omega
theorem wrapM (a : Nat) : IntKind.u64.wrap (a : Int) = ((a % 18446744073709551616 : Nat) : Int) := by rw [IntKind.wrap_u64]; omega

set_option maxRecDepth 100000 in
set_option maxHeartbeats 2000000 in
theorem mul64_any (x y : Nat) (hx : x < 18446744073709551616) (hy : y < 18446744073709551616) (w : World) :
    Calls Tryz.prog 84 #[.int .u64 x, .int .u64 y] w fun e w' => e = .returned (.tuple #[.int .u64 ((x * y / 18446744073709551616 : Nat) : Int), .int .u64 ((x * y % 18446744073709551616 : Nat) : Int)]) ∧ w' = w := by
  obtain ⟨bd, bt, bw, hhi⟩ := Lib.mul64_hi x y hx hy
  have ba := Lib.half_mul_le (a := x / 4294967296) (b := y / 4294967296) (by omega) (by omega)
  have bb := Lib.half_mul_le (a := x / 4294967296) (b := y % 4294967296) (by omega) (by omega)
  have bc := Lib.half_mul_le (a := x % 4294967296) (b := y / 4294967296) (by omega) (by omega)
  have ba' : x / 4294967296 * (y / 4294967296) < 18446744073709551616 := by omega
  have bb' : x / 4294967296 * (y % 4294967296) < 18446744073709551616 := by omega
  have bc' : x % 4294967296 * (y / 4294967296) < 18446744073709551616 := by omega
  have bh1 : x / 4294967296 * (y / 4294967296) + (x / 4294967296 * (y % 4294967296) + x % 4294967296 * (y % 4294967296) / 4294967296) / 4294967296 < 18446744073709551616 := by omega
  have bh : x / 4294967296 * (y / 4294967296) + (x / 4294967296 * (y % 4294967296) + x % 4294967296 * (y % 4294967296) / 4294967296) / 4294967296 + ((x / 4294967296 * (y % 4294967296) + x % 4294967296 * (y % 4294967296) / 4294967296) % 4294967296 + x % 4294967296 * (y / 4294967296)) / 4294967296 < 18446744073709551616 := by omega
  go_enter Tryz.func84, Tryz.ntmps84
  go_wp2
  simp only [maskN x hx, maskN y hy, divN, mulN, addN, wrapN _ bd, wrapN _ bb', wrapN _ bt, maskN _ bt, wrapN _ bc', wrapN _ bw, wrapN _ ba', wrapN _ bh1, wrapN _ bh, wrapM (x * y)]
  rw [hhi]
  go_ret2
  exact ⟨rfl, rfl⟩

/-- How two numbers compare. -/
def cmI (x y : Int) : Int := if x < y then -1 else if y < x then 1 else 0
theorem cmI_bd (x y : Int) : -1 ≤ cmI x y ∧ cmI x y ≤ 1 := by unfold cmI; split <;> (try split) <;> omega
theorem cmI_lt {x y : Int} (h : x < y) : cmI x y = -1 := by simp [cmI, h]
theorem cmI_gt {x y : Int} (h : y < x) : cmI x y = 1 := by simp [cmI, h, show ¬ x < y by omega]
theorem cmI_eq (x : Int) : cmI x x = 0 := by simp [cmI]
theorem cmI_neg (x y : Int) : (decide (cmI x y < 0)) = decide (x < y) := by
  unfold cmI
  by_cases h : x < y
  · simp [h]
  · by_cases h2 : y < x <;> simp [h, h2]
theorem cmI_sg (n : Int) : cmI n 0 = sgI n := by
  rcases (show n < 0 ∨ n = 0 ∨ 0 < n by omega) with h | h | h
  · rw [cmI_lt h, sgI_neg h]
  · subst h; rfl
  · rw [cmI_gt h, sgI_pos h]
/-- The first that is not nothing. -/
def orI (a b : Int) : Int := if a = 0 then b else a
theorem or_cm (X Y : Nat) : orI (cmI ((X / 18446744073709551616 : Nat) : Int) ((Y / 18446744073709551616 : Nat) : Int)) (cmI ((X % 18446744073709551616 : Nat) : Int) ((Y % 18446744073709551616 : Nat) : Int)) = cmI (X : Int) (Y : Int) := by
  rcases Nat.lt_trichotomy (X / 18446744073709551616) (Y / 18446744073709551616) with h | h | h
  · rw [cmI_lt (show ((X / 18446744073709551616 : Nat) : Int) < ((Y / 18446744073709551616 : Nat) : Int) by omega), cmI_lt (show (X : Int) < (Y : Int) by omega)]; rfl
  · rw [h, cmI_eq]
    show cmI _ _ = _
    rcases Nat.lt_trichotomy (X % 18446744073709551616) (Y % 18446744073709551616) with k | k | k
    · rw [cmI_lt (show ((X % 18446744073709551616 : Nat) : Int) < ((Y % 18446744073709551616 : Nat) : Int) by omega), cmI_lt (show (X : Int) < (Y : Int) by omega)]
    · rw [k, cmI_eq, show X = Y by omega, cmI_eq]
    · rw [cmI_gt (show ((Y % 18446744073709551616 : Nat) : Int) < ((X % 18446744073709551616 : Nat) : Int) by omega), cmI_gt (show (Y : Int) < (X : Int) by omega)]
  · rw [cmI_gt (show ((Y / 18446744073709551616 : Nat) : Int) < ((X / 18446744073709551616 : Nat) : Int) by omega), cmI_gt (show (Y : Int) < (X : Int) by omega)]; rfl

set_option maxRecDepth 100000 in
set_option maxHeartbeats 2000000 in
theorem isNaN_int64 (n : Int) (w : World) : Calls Tryz.prog 102 #[.int .i64 n] w fun e w' => e = .returned (.bool false) ∧ w' = w := by
  go_enter Tryz.func102, Tryz.ntmps102
  go_wp2
  go_ret
  exact ⟨rfl, rfl⟩

set_option maxRecDepth 100000 in
set_option maxHeartbeats 2000000 in
theorem compare_int64 (x y : Int) (w : World) : Calls Tryz.prog 94 #[.int .i64 x, .int .i64 y] w fun e w' => e = .returned (.int .i64 (cmI x y)) ∧ w' = w := by
  rcases (show x < y ∨ x = y ∨ y < x by omega) with h | h | h
  · rw [cmI_lt h]
    go_enter Tryz.func94, Tryz.ntmps94
    go_wp2_with fail
    refine (isNaN_int64 _ _).mono ?_
    rintro e w1 ⟨rfl, hw⟩
    obtain rfl := hw.symm
    go_wp2_with fail
    refine (isNaN_int64 _ _).mono ?_
    rintro e w1 ⟨rfl, hw⟩
    obtain rfl := hw.symm
    go_wp2_with fail
    go_ret
    exact ⟨rfl, rfl⟩
  · subst h
    rw [cmI_eq]
    go_enter Tryz.func94, Tryz.ntmps94
    go_wp2_with fail
    refine (isNaN_int64 _ _).mono ?_
    rintro e w1 ⟨rfl, hw⟩
    obtain rfl := hw.symm
    go_wp2_with fail
    refine (isNaN_int64 _ _).mono ?_
    rintro e w1 ⟨rfl, hw⟩
    obtain rfl := hw.symm
    go_wp2_with fail
    go_ret
    exact ⟨rfl, rfl⟩
  · rw [cmI_gt h]
    go_enter Tryz.func94, Tryz.ntmps94
    go_wp2_with fail
    refine (isNaN_int64 _ _).mono ?_
    rintro e w1 ⟨rfl, hw⟩
    obtain rfl := hw.symm
    go_wp2_with fail
    refine (isNaN_int64 _ _).mono ?_
    rintro e w1 ⟨rfl, hw⟩
    obtain rfl := hw.symm
    go_wp2_with fail
    go_ret
    exact ⟨rfl, rfl⟩

set_option maxRecDepth 100000 in
set_option maxHeartbeats 2000000 in
theorem isNaN_uint64 (n : Int) (w : World) : Calls Tryz.prog 95 #[.int .u64 n] w fun e w' => e = .returned (.bool false) ∧ w' = w := by
  go_enter Tryz.func95, Tryz.ntmps95
  go_wp2
  go_ret
  exact ⟨rfl, rfl⟩

set_option maxRecDepth 100000 in
set_option maxHeartbeats 2000000 in
theorem compare_uint64 (x y : Int) (w : World) : Calls Tryz.prog 86 #[.int .u64 x, .int .u64 y] w fun e w' => e = .returned (.int .i64 (cmI x y)) ∧ w' = w := by
  rcases (show x < y ∨ x = y ∨ y < x by omega) with h | h | h
  · rw [cmI_lt h]
    go_enter Tryz.func86, Tryz.ntmps86
    go_wp2_with fail
    refine (isNaN_uint64 _ _).mono ?_
    rintro e w1 ⟨rfl, hw⟩
    obtain rfl := hw.symm
    go_wp2_with fail
    refine (isNaN_uint64 _ _).mono ?_
    rintro e w1 ⟨rfl, hw⟩
    obtain rfl := hw.symm
    go_wp2_with fail
    go_ret
    exact ⟨rfl, rfl⟩
  · subst h
    rw [cmI_eq]
    go_enter Tryz.func86, Tryz.ntmps86
    go_wp2_with fail
    refine (isNaN_uint64 _ _).mono ?_
    rintro e w1 ⟨rfl, hw⟩
    obtain rfl := hw.symm
    go_wp2_with fail
    refine (isNaN_uint64 _ _).mono ?_
    rintro e w1 ⟨rfl, hw⟩
    obtain rfl := hw.symm
    go_wp2_with fail
    go_ret
    exact ⟨rfl, rfl⟩
  · rw [cmI_gt h]
    go_enter Tryz.func86, Tryz.ntmps86
    go_wp2_with fail
    refine (isNaN_uint64 _ _).mono ?_
    rintro e w1 ⟨rfl, hw⟩
    obtain rfl := hw.symm
    go_wp2_with fail
    refine (isNaN_uint64 _ _).mono ?_
    rintro e w1 ⟨rfl, hw⟩
    obtain rfl := hw.symm
    go_wp2_with fail
    go_ret
    exact ⟨rfl, rfl⟩

set_option maxRecDepth 100000 in
set_option maxHeartbeats 2000000 in
theorem or_any (a b : Int) (g : Nat) (w : World) (hg : g < w.heap.size) (h0 : w.cell? ⟨g, 0, none⟩ = some (.int .i64 a)) (h1 : w.cell? ⟨g, 1, none⟩ = some (.int .i64 b)) :
    Calls Tryz.prog 85 #[.slice (some ⟨g, 0, none⟩) 2 2] w fun e w' => e = .returned (.int .i64 (orI a b)) ∧ w' = w := by
  have H0 := hide h0
  have H1 := hide h1
  clear h0 h1
  go_enter Tryz.func85, Tryz.ntmps85
  go_wp2_with fail
  go_loopw [8] (fun i wr => ∃ k : Nat, k ≤ 2 ∧ i = .int .i64 k ∧ Hid ((0 < k → a = 0) ∧ (1 < k → b = 0)) ∧ wr = w) (fun i _ => 2 - (intOf i).toNat)
  case atStart => exact ⟨0, by omega, rfl, hide ⟨by omega, by omega⟩, rfl⟩
  case round =>
    obtain ⟨k, hk, rfl, HK, rfl⟩ := hrel
    have hk3 : k = 0 ∨ k = 1 ∨ k = 2 := by omega
    rcases hk3 with rfl | rfl | rfl
    · have c0 := H0.out
      by_cases hz : a = 0
      · subst hz
        go_wp2_with fail
        go_roundw
        case rel => exact ⟨1, by omega, by go_num, hide ⟨by simp, by simp⟩, by first | rfl | trivial⟩
        case measure => simp [intOf]
      · have hz2 : (a != 0) = true := by simpa using hz
        go_wp2_with fail
        go_ret
        exact ⟨ret_int (by simp [orI, hz]), rfl⟩
    · have c1 := H1.out
      obtain rfl := HK.out.1 (by omega)
      by_cases hz : b = 0
      · subst hz
        go_wp2_with fail
        go_roundw
        case rel => exact ⟨2, by omega, by go_num, hide ⟨by simp, by simp⟩, by first | rfl | trivial⟩
        case measure => simp [intOf]
      · have hz2 : (b != 0) = true := by simpa using hz
        go_wp2_with fail
        go_ret
        exact ⟨ret_int (by simp [orI]), rfl⟩
    · obtain rfl := HK.out.1 (by omega)
      obtain rfl := HK.out.2 (by omega)
      go_wp2_with fail
      go_ret
      exact ⟨ret_int (by simp [orI]), rfl⟩

theorem u64_nn {n : Int} (h : 0 ≤ n) (h2 : n ≤ 1000000000000000000) : IntKind.u64.wrap n = n := by rw [IntKind.wrap_u64]; omega

set_option maxRecDepth 100000 in
set_option maxHeartbeats 2000000 in
theorem compare_is {n d m e' c : Int} (h1 : FOk (n, d)) (h2 : FOk (m, e')) (hc : cmI (n * e') (m * d) = c) {w : World} :
    Calls Tryz.prog 62 #[.agg #[.int .i64 n, .int .i64 d], .agg #[.int .i64 m, .int .i64 e']] w fun e w' => e = .returned (.int .i64 c) ∧ Below w.heap.size w w' := by
  obtain ⟨n0, n1, n2, n3⟩ := h1
  obtain ⟨m0, m1, m2, m3⟩ := h2
  simp only at n0 n1 n2 n3 m0 m1 m2 m3
  obtain ⟨n, rfl⟩ := Int.eq_ofNat_of_zero_le n0
  obtain ⟨m, rfl⟩ := Int.eq_ofNat_of_zero_le m0
  obtain ⟨d, rfl⟩ := Int.eq_ofNat_of_zero_le (show 0 ≤ d by omega)
  obtain ⟨e', rfl⟩ := Int.eq_ofNat_of_zero_le (show 0 ≤ e' by omega)
  have HM1 := fun w => hide (mul64_any n e' (by omega) (by omega) w)
  have HM2 := fun w => hide (mul64_any m d (by omega) (by omega) w)
  have HO := hide (or_cm (n * e') (m * d))
  have HC := hide (show cmI ((n * e' : Nat) : Int) ((m * d : Nat) : Int) = c by rw [← hc, mulN, mulN])
  generalize n * e' = X at *
  generalize m * d = Y at *
  clear hc
  obtain ⟨xh, hxh⟩ : ∃ z : Int, ((X / 18446744073709551616 : Nat) : Int) = z := ⟨_, rfl⟩
  obtain ⟨xl, hxl⟩ : ∃ z : Int, ((X % 18446744073709551616 : Nat) : Int) = z := ⟨_, rfl⟩
  obtain ⟨yh, hyh⟩ : ∃ z : Int, ((Y / 18446744073709551616 : Nat) : Int) = z := ⟨_, rfl⟩
  obtain ⟨yl, hyl⟩ : ∃ z : Int, ((Y % 18446744073709551616 : Nat) : Int) = z := ⟨_, rfl⟩
  rw [hxh, hxl] at HM1
  rw [hyh, hyl] at HM2
  rw [hxh, hxl, hyh, hyl, HC.out] at HO
  clear hxh hxl hyh hyl HC
  have u1 := u64_nn n0 (by omega)
  have u2 := u64_nn m0 (by omega)
  have u3 := u64_nn (show 0 ≤ (d : Int) by omega) (by omega)
  have u4 := u64_nn (show 0 ≤ (e' : Int) by omega) (by omega)
  go_enter Tryz.func62, Tryz.ntmps62
  go_wp2_with fail
  obtain ⟨W2, hW2⟩ : ∃ W : World, W = ((w.alloc (.cells #[.int .i64 (n : Int), .int .i64 (d : Int)] 83)).alloc (.cells #[.int .i64 (m : Int), .int .i64 (e' : Int)] 83)) := ⟨_, rfl⟩
  rw [← hW2]
  have bA : Box W2 w.heap.size [.int .i64 (n : Int), .int .i64 (d : Int)] := by rw [hW2]; exact (box_at _ _ _ _ (by simp)).alloc (by simp) _
  have bB : Box W2 (w.heap.size + 1) [.int .i64 (m : Int), .int .i64 (e' : Int)] := by rw [hW2]; exact box_at _ _ _ _ (by simp)
  have hB : Below w.heap.size w W2 := by rw [hW2]; exact ((Below.refl _ _).alloc (Nat.le_refl _) _).alloc (by simp) _
  have hs1 : w.heap.size < W2.heap.size := by rw [hW2]; simp; omega
  have hs2 : w.heap.size + 1 < W2.heap.size := by rw [hW2]; simp
  have a0 := bA 0 _ rfl
  have a1 := bA 1 _ rfl
  have b0 := bB 0 _ rfl
  have b1 := bB 1 _ rfl
  clear hW2 bA bB
  with_reducible refine (HM1 _).out.mono ?_
  rintro e w1 ⟨rfl, hw⟩
  obtain rfl := hw.symm
  go_wp2_with fail
  with_reducible refine (HM2 _).out.mono ?_
  rintro e w2 ⟨rfl, hw⟩
  obtain rfl := hw.symm
  go_wp2_with fail
  with_reducible refine (compare_uint64 _ _ _).mono ?_
  rintro e w3 ⟨rfl, hw⟩
  obtain rfl := hw.symm
  go_wp2_with fail
  with_reducible refine (compare_uint64 _ _ _).mono ?_
  rintro e w4 ⟨rfl, hw⟩
  obtain rfl := hw.symm
  go_wp2_with fail
  obtain ⟨W3, hW3⟩ : ∃ W : World, W = W2.alloc (.cells #[.int .i64 (cmI xh yh), .int .i64 (cmI xl yl)] 3) := ⟨_, rfl⟩
  rw [← hW3]
  have HOR := hide (or_any (cmI xh yh) (cmI xl yl) W2.heap.size W3 (by rw [hW3]; simp) (by rw [hW3]; exact new_cell _ _ _ 0) (by rw [hW3]; exact new_cell _ _ _ 1))
  have hB3 : Below w.heap.size w W3 := by rw [hW3]; exact hB.alloc (by omega) _
  clear hW3
  with_reducible refine HOR.out.mono ?_
  rintro e w5 ⟨rfl, hw⟩
  obtain rfl := hw.symm
  go_wp2_with fail
  go_ret
  exact ⟨ret_int HO.out, hB3⟩


end Go.Proofs.YtajjophmngabbaaGreatDoor
