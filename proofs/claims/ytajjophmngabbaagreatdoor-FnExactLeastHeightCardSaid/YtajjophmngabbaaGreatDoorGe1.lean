/-
  GEOMETRY of the reference, exactly: products, signs, fractions. No condition but those that each theorem names.
-/
import Derived.Test.YtajjophmngabbaaGreatDoorGx
import Derived.Test.YtajjophmngabbaaGreatDoorBox
namespace Go.Proofs.YtajjophmngabbaaGreatDoor
open Go.RowKit
set_option linter.unusedVariables false
set_option linter.unusedSimpArgs false

set_option maxRecDepth 100000 in
set_option maxHeartbeats 2000000 in
theorem l14Cross_c (ax ay bx cy px py : Int) (h : CoS ax ay bx cy) (h' : CoP px py) (w : World) :
    Calls Tryz.prog 97 #[.agg #[.int .i64 ax, .int .i64 ay, .int .i64 bx, .int .i64 cy], .agg #[.int .i64 px, .int .i64 py]] w fun e w' => e = .returned (.int .i64 (crI ax ay bx cy px py)) ∧ Below w.heap.size w w' := by
  obtain ⟨⟨a1, a2⟩, ⟨b1, b2⟩, ⟨c1, c2⟩, ⟨d1, d2⟩⟩ := h
  obtain ⟨⟨e1, e2⟩, ⟨f1, f2⟩⟩ := h'
  obtain ⟨p1, p2⟩ := mul_fit (u := bx - ax) (v := py - ay) (by omega) (by omega)
  obtain ⟨q1, q2⟩ := mul_fit (u := cy - ay) (v := px - ax) (by omega) (by omega)
  unfold crI
  go_enter Tryz.func97, Tryz.ntmps97
  go_wp2_with fail
  go_ret
  exact ⟨ret_int (by first | rfl | omega), (((Below.refl _ _).alloc (Nat.le_refl _) _).alloc (by simp) _)⟩

set_option maxRecDepth 100000 in
set_option maxHeartbeats 2000000 in
theorem l14Dot_c (ax ay bx cy px py : Int) (h : CoS ax ay bx cy) (h' : CoP px py) (w : World) :
    Calls Tryz.prog 99 #[.agg #[.int .i64 ax, .int .i64 ay, .int .i64 bx, .int .i64 cy], .agg #[.int .i64 px, .int .i64 py]] w fun e w' => e = .returned (.int .i64 (dtI ax ay bx cy px py)) ∧ Below w.heap.size w w' := by
  obtain ⟨⟨a1, a2⟩, ⟨b1, b2⟩, ⟨c1, c2⟩, ⟨d1, d2⟩⟩ := h
  obtain ⟨⟨e1, e2⟩, ⟨f1, f2⟩⟩ := h'
  obtain ⟨p1, p2⟩ := mul_fit (u := bx - ax) (v := px - ax) (by omega) (by omega)
  obtain ⟨q1, q2⟩ := mul_fit (u := cy - ay) (v := py - ay) (by omega) (by omega)
  unfold dtI
  go_enter Tryz.func99, Tryz.ntmps99
  go_wp2_with fail
  go_ret
  exact ⟨ret_int (by first | rfl | omega), (((Below.refl _ _).alloc (Nat.le_refl _) _).alloc (by simp) _)⟩

set_option maxRecDepth 100000 in
set_option maxHeartbeats 2000000 in
theorem l02Square_c (ax ay px py : Int) (h : CoP ax ay) (h' : CoP px py) (w : World) :
    Calls Tryz.prog 69 #[.agg #[.int .i64 ax, .int .i64 ay], .agg #[.int .i64 px, .int .i64 py]] w fun e w' => e = .returned (.int .i64 (sqD ax ay px py)) ∧ Below w.heap.size w w' := by
  obtain ⟨⟨a1, a2⟩, ⟨b1, b2⟩⟩ := h
  obtain ⟨⟨e1, e2⟩, ⟨f1, f2⟩⟩ := h'
  obtain ⟨p1, p2⟩ := mul_fit (u := ax - px) (v := ax - px) (by omega) (by omega)
  obtain ⟨q1, q2⟩ := mul_fit (u := ay - py) (v := ay - py) (by omega) (by omega)
  unfold sqD
  go_enter Tryz.func69, Tryz.ntmps69
  go_wp2_with fail
  go_ret
  exact ⟨ret_int (by first | rfl | omega), (((Below.refl _ _).alloc (Nat.le_refl _) _).alloc (by simp) _)⟩

set_option maxRecDepth 100000 in
set_option maxHeartbeats 2000000 in
theorem l14Sign_c (n : Int) (w : World) :
    Calls Tryz.prog 96 #[.int .i64 n] w fun e w' => e = .returned (.int .i64 (sgI n)) ∧ w' = w := by
  rcases (show n < 0 ∨ n = 0 ∨ 0 < n by omega) with h | h | h
  · rw [sgI_neg h]
    go_enter Tryz.func96, Tryz.ntmps96
    go_wp2
    go_ret
    exact ⟨rfl, rfl⟩
  · subst h
    rw [sgI_zero]
    go_enter Tryz.func96, Tryz.ntmps96
    go_wp2
    go_ret
    exact ⟨rfl, rfl⟩
  · rw [sgI_pos h]
    go_enter Tryz.func96, Tryz.ntmps96
    go_wp2
    go_ret
    exact ⟨rfl, rfl⟩

set_option maxRecDepth 100000 in
set_option maxHeartbeats 2000000 in
theorem l00Min_c (a b : Int) (w : World) :
    Calls Tryz.prog 103 #[.int .i64 a, .int .i64 b] w fun e w' => e = .returned (.int .i64 (mnI a b)) ∧ w' = w := by
  unfold mnI
  by_cases h : a < b
  all_goals
    go_enter Tryz.func103, Tryz.ntmps103
    go_wp2
    all_goals (go_ret; exact ⟨ret_int (by simp [h]), rfl⟩)

set_option maxRecDepth 100000 in
set_option maxHeartbeats 2000000 in
theorem l00Max_c (a b : Int) (w : World) :
    Calls Tryz.prog 70 #[.int .i64 a, .int .i64 b] w fun e w' => e = .returned (.int .i64 (mxI a b)) ∧ w' = w := by
  unfold mxI
  by_cases h : a > b
  all_goals
    go_enter Tryz.func70, Tryz.ntmps70
    go_wp2
    all_goals (go_ret; exact ⟨ret_int (by simp [h]), rfl⟩)

set_option maxHeartbeats 400000 in
theorem l14Gcd_any (x0 y0 : Nat) (hx : x0 ≤ 1000000000000000000) (hy : y0 ≤ 1000000000000000000) (w : World) :
    Calls Tryz.prog 104 #[.int .i64 x0, .int .i64 y0] w fun e w' => e = .returned (.int .i64 (Nat.gcd x0 y0 : Nat)) ∧ Below w.heap.size w w' := by
  go_enter Tryz.func104, Tryz.ntmps104
  go_wp2
  go_loopw [0, 1] (fun a b wr => ∃ x y : Nat, x ≤ 1000000000000000000 ∧ y ≤ 1000000000000000000 ∧ a = .int .i64 x ∧ b = .int .i64 y ∧ Hid (Nat.gcd x y = Nat.gcd x0 y0) ∧ Below w.heap.size w wr) (fun _ b _ => (intOf b).toNat)
  case atStart => exact ⟨x0, y0, hx, hy, rfl, rfl, rfl, Below.refl _ _⟩
  case round =>
    obtain ⟨x, y, hx1, hy1, rfl, rfl, hg, hbr⟩ := hrel
    by_cases hz : y = 0
    · subst hz
      go_wp2
      go_ret
      have h := hg.out
      rw [Nat.gcd_zero_right] at h
      exact ⟨ret_int (by rw [← h]), hbr⟩
    · have hpos : 0 < y := Nat.pos_of_ne_zero hz
      have hne : ((y : Int) == 0) = false := by simpa using hz
      have hne2 : ((y : Int) != 0) = true := by simpa using hz
      have hml := Nat.mod_lt x hpos
      clear hz
      go_wp2_with fail
      go_roundw
      case rel =>
        exact ⟨y, x % y, hy1, by omega, rfl, by first | rfl | exact vint (by omega), (gcd_step x y).trans hg.out, hbr⟩
      case measure => simp [intOf]; omega


set_option maxRecDepth 100000 in
set_option maxHeartbeats 2000000 in
theorem l14Make_c (n d : Int) (hn : 0 ≤ n) (hn2 : n ≤ 1000000000000000000) (hd : 0 < d) (hd2 : d ≤ 1000000000000000000) (w : World) :
    Calls Tryz.prog 100 #[.int .i64 n, .int .i64 d] w fun e w' => e = .returned (.agg #[.int .i64 (redF n d).1, .int .i64 (redF n d).2]) ∧ Below w.heap.size w w' := by
  have g1 := gcdI_pos (n := n) hd
  have g2 := gcdI_le (n := n) hd
  have hg : ∀ W : World, Calls Tryz.prog 104 #[.int .i64 n, .int .i64 d] W fun e w' => e = .returned (.int .i64 (gcdI n d)) ∧ Below W.heap.size W w' := fun W => by
    have h := l14Gcd_any n.toNat d.toNat (by omega) (by omega) W
    rw [Int.toNat_of_nonneg hn, Int.toNat_of_nonneg (show 0 ≤ d by omega)] at h
    exact h
  have HG := hide hg
  clear hg
  unfold redF
  generalize gcdI n d = g at *
  go_enter Tryz.func100, Tryz.ntmps100
  go_wp2_with fail
  refine (HG.out _).mono ?_
  rintro e w1 ⟨rfl, hb1⟩
  obtain ⟨hc1, hf1⟩ := bcell hb1
  have hs1 : w.heap.size < w1.heap.size := by have h := hb1.size; simp at h; omega
  have d0 : w1.cell? ⟨w.heap.size, 0, none⟩ = some (.int .i64 0) := (hc1 w.heap.size 0 (by simp)).trans (new_cell _ _ _ _)
  have d1 : w1.cell? ⟨w.heap.size, 1, none⟩ = some (.int .i64 0) := (hc1 w.heap.size 1 (by simp)).trans (new_cell _ _ _ _)
  have f0 : w1.frozen? ⟨w.heap.size, 0, none⟩ = false := (hf1 w.heap.size 0 (by simp)).trans (new_frozen _ _ _ _)
  have f1 : w1.frozen? ⟨w.heap.size, 1, none⟩ = false := (hf1 w.heap.size 1 (by simp)).trans (new_frozen _ _ _ _)
  clear hc1 hf1
  go_wp2_with fail
  go_region
  go_wp2_with fail
  refine bodyPost_ret (v := .agg #[.int .i64 (n / g), .int .i64 (d / g)]) (by simp [results, Tryz.results100, go_sem, d0, d1]) rfl ⟨rfl, ?_⟩
  exact ((((((Below.refl _ _).alloc (Nat.le_refl _) _).trans (hb1.mono (by simp))).setCell (Nat.le_refl _) _).setCell (Nat.le_refl _) _)).drew

/-- The size of the number in a block's second cell. -/
def den (W : World) (b : Nat) : Nat := match W.cell? ⟨b, 1, none⟩ with | some v => (intOf v).natAbs | none => 0
theorem den_box {W : World} {b : Nat} {v : Value} {x : Int} (h : Box W b [v, .int .i64 x]) : den W b = x.natAbs := by
  unfold den; rw [h 1 _ rfl]; rfl
theorem less_end {wr : World} {a b : Nat} {x0 x1 y0 y1 x y z u : Value} {o : Obj} (hab : a < b) (hb : b < wr.heap.size) (bA : Box wr a [x0, x1]) (fA : Fz wr a) (bB : Box wr b [y0, y1]) (fB : Fz wr b) :
    Box (((((wr.setCell ⟨b, 0, none⟩ x).setCell ⟨b, 1, none⟩ y).setCell ⟨a, 0, none⟩ z).setCell ⟨a, 1, none⟩ u).alloc o) a [z, u] ∧ Fz (((((wr.setCell ⟨b, 0, none⟩ x).setCell ⟨b, 1, none⟩ y).setCell ⟨a, 0, none⟩ z).setCell ⟨a, 1, none⟩ u).alloc o) a ∧
    Box (((((wr.setCell ⟨b, 0, none⟩ x).setCell ⟨b, 1, none⟩ y).setCell ⟨a, 0, none⟩ z).setCell ⟨a, 1, none⟩ u).alloc o) b [x, y] ∧ Fz (((((wr.setCell ⟨b, 0, none⟩ x).setCell ⟨b, 1, none⟩ y).setCell ⟨a, 0, none⟩ z).setCell ⟨a, 1, none⟩ u).alloc o) b ∧
    Below a wr (((((wr.setCell ⟨b, 0, none⟩ x).setCell ⟨b, 1, none⟩ y).setCell ⟨a, 0, none⟩ z).setCell ⟨a, 1, none⟩ u).alloc o) ∧ wr.heap.size ≤ (((((wr.setCell ⟨b, 0, none⟩ x).setCell ⟨b, 1, none⟩ y).setCell ⟨a, 0, none⟩ z).setCell ⟨a, 1, none⟩ u).alloc o).heap.size := by
  obtain ⟨W1, h1⟩ : ∃ W, W = wr.setCell ⟨b, 0, none⟩ x := ⟨_, rfl⟩
  obtain ⟨W2, h2⟩ : ∃ W, W = W1.setCell ⟨b, 1, none⟩ y := ⟨_, rfl⟩
  obtain ⟨W3, h3⟩ : ∃ W, W = W2.setCell ⟨a, 0, none⟩ z := ⟨_, rfl⟩
  obtain ⟨W4, h4⟩ : ∃ W, W = W3.setCell ⟨a, 1, none⟩ u := ⟨_, rfl⟩
  rw [← h1, ← h2, ← h3, ← h4]
  have b1 : Box W1 b [x, y1] := by rw [h1]; exact bB.put 0 x (by simp)
  have b2 : Box W2 b [x, y] := by rw [h2]; exact b1.put 1 y (by simp)
  have b3 : Box W3 b [x, y] := by rw [h3]; exact b2.far _ _ (by show a ≠ b; omega)
  have b4 : Box W4 b [x, y] := by rw [h4]; exact b3.far _ _ (by show a ≠ b; omega)
  have a1 : Box W1 a [x0, x1] := by rw [h1]; exact bA.far _ _ (by show b ≠ a; omega)
  have a2 : Box W2 a [x0, x1] := by rw [h2]; exact a1.far _ _ (by show b ≠ a; omega)
  have a3 : Box W3 a [z, x1] := by rw [h3]; exact a2.put 0 z (by simp)
  have a4 : Box W4 a [z, u] := by rw [h4]; exact a3.put 1 u (by simp)
  have f4 : Fz W4 a := by rw [h4, h3, h2, h1]; exact (((fA.set _ _).set _ _).set _ _).set _ _
  have g4 : Fz W4 b := by rw [h4, h3, h2, h1]; exact (((fB.set _ _).set _ _).set _ _).set _ _
  have B1 : Below a wr W1 := by rw [h1]; exact (Below.refl a wr).setCell (by show a ≤ b; omega) _
  have B2 : Below a wr W2 := by rw [h2]; exact B1.setCell (by show a ≤ b; omega) _
  have B3 : Below a wr W3 := by rw [h3]; exact B2.setCell (by show a ≤ a; omega) _
  have B4 : Below a wr W4 := by rw [h4]; exact B3.setCell (by show a ≤ a; omega) _
  have hs := B4.size
  clear h1 h2 h3 h4
  exact ⟨a4.alloc (by omega) _, f4.alloc (by omega) _, b4.alloc (by omega) _, g4.alloc (by omega) _, B4.alloc (by omega) _, by simp; omega⟩

set_option maxRecDepth 100000 in
set_option maxHeartbeats 2000000 in
theorem l14Less_c (an ad bn bd : Int) (ha : FOk (an, ad)) (hb : FOk (bn, bd)) (w : World) :
    Calls Tryz.prog 71 #[.agg #[.int .i64 an, .int .i64 ad], .agg #[.int .i64 bn, .int .i64 bd]] w fun e w' => e = .returned (.bool (ltF (an, ad) (bn, bd))) ∧ Below w.heap.size w w' := by
  obtain ⟨ha0, ha1, ha2, ha3⟩ := ha
  obtain ⟨hb0, hb1, hb2, hb3⟩ := hb
  simp only at ha0 ha1 ha2 ha3 hb0 hb1 hb2 hb3
  obtain ⟨R, hR⟩ : ∃ R, ltF (an, ad) (bn, bd) = R := ⟨_, rfl⟩
  have HR := hide hR
  rw [hR]
  clear hR
  go_enter Tryz.func71, Tryz.ntmps71
  go_wp2_with fail
  obtain ⟨W0, hW0⟩ : ∃ W0 : World, W0 = ((w.alloc (.cells #[.int .i64 an, .int .i64 ad] 83)).alloc (.cells #[.int .i64 bn, .int .i64 bd] 83)) := ⟨_, rfl⟩
  rw [← hW0]
  have bA : Box W0 w.heap.size [.int .i64 an, .int .i64 ad] := by rw [hW0]; exact (box_at _ _ _ _ (by simp)).alloc (by simp) _
  have fA : Fz W0 w.heap.size := by rw [hW0]; exact (fz_at _ _ _ _ (by simp)).alloc (by simp) _
  have bB : Box W0 (w.heap.size + 1) [.int .i64 bn, .int .i64 bd] := by rw [hW0]; exact box_at _ _ _ _ (by simp)
  have fB : Fz W0 (w.heap.size + 1) := by rw [hW0]; exact fz_at _ _ _ _ (by simp)
  have hB : Below w.heap.size w W0 := by rw [hW0]; exact ((Below.refl _ _).alloc (Nat.le_refl _) _).alloc (by simp) _
  have hs0 : w.heap.size + 2 ≤ W0.heap.size := by rw [hW0]; simp
  clear hW0
  go_loopw [] (fun wr => ∃ an ad bn bd : Int, Box wr w.heap.size [.int .i64 an, .int .i64 ad] ∧ Fz wr w.heap.size ∧ Box wr (w.heap.size + 1) [.int .i64 bn, .int .i64 bd] ∧ Fz wr (w.heap.size + 1) ∧ (0 ≤ an ∧ an ≤ 1000000000000000000 ∧ 0 < ad ∧ ad ≤ 1000000000000000000 ∧ 0 ≤ bn ∧ bn ≤ 1000000000000000000 ∧ 0 < bd ∧ bd ≤ 1000000000000000000) ∧ Hid (ltF (an, ad) (bn, bd) = R) ∧ Below w.heap.size w wr ∧ w.heap.size + 2 ≤ wr.heap.size) (fun wr => den wr w.heap.size + den wr (w.heap.size + 1))
  case atStart => exact ⟨an, ad, bn, bd, bA, fA, bB, fB, ⟨ha0, by omega, ha2, by omega, hb0, by omega, hb2, by omega⟩, HR, hB, hs0⟩
  case round =>
    clear bA fA bB fB ha0 ha1 ha2 ha3 hb0 hb1 hb2 hb3 hB hs0 HR
    obtain ⟨an, ad, bn, bd, bA, fA, bB, fB, ⟨ha0, ha1, ha2, ha3, hb0, hb1, hb2, hb3⟩, HR, hbr, hsr⟩ := hrel
    have a0 := bA 0 _ rfl
    have a1 := bA 1 _ rfl
    have b0 := bB 0 _ rfl
    have b1 := bB 1 _ rfl
    have fa0 := fA 0
    have fa1 := fA 1
    have fb0 := fB 0
    have fb1 := fB 1
    have x0 := Int.emod_nonneg an (show ad ≠ 0 by omega)
    have x1 := Int.emod_lt_of_pos an ha2
    have y0 := Int.emod_nonneg bn (show bd ≠ 0 by omega)
    have y1 := Int.emod_lt_of_pos bn hb2
    have HE := hide (fun (x y z u : Value) (o : Obj) => less_end (b := w.heap.size + 1) (x := x) (y := y) (z := z) (u := u) (o := o) (by omega) (by omega) bA fA bB fB)
    have HD := hide (And.intro (den_box bA) (den_box bB))
    clear bA bB fA fB
    have nA : w.heap.size < wr.heap.size := by omega
    have nB : w.heap.size + 1 < wr.heap.size := by omega
    have q0 := Int.ediv_nonneg ha0 (show 0 ≤ ad by omega)
    have q1 := Int.ediv_le_self ad ha0
    have q2 := Int.ediv_nonneg hb0 (show 0 ≤ bd by omega)
    have q3 := Int.ediv_le_self bd hb0
    by_cases hpq : an / ad = bn / bd
    · by_cases hx : an % ad = 0
      · have HV := hide (HR.out.symm.trans (ltF_zero ha0 ha2 hb0 hb2 hpq (.inl hx)))
        go_wp2_with fail
        go_ret
        exact ⟨ret_bool (by rw [HV.out]; simp [hx]), hbr⟩
      · by_cases hy : bn % bd = 0
        · have HV := hide (HR.out.symm.trans (ltF_zero ha0 ha2 hb0 hb2 hpq (.inr hy)))
          go_wp2_with fail
          go_ret
          exact ⟨ret_bool (by rw [HV.out]; simp [hx]), hbr⟩
        · have hx' : (an % ad == 0) = false := by simpa using hx
          have hy' : (bn % bd == 0) = false := by simpa using hy
          have HV := hide ((ltF_turn ha0 ha2 hb0 hb2 hpq).symm.trans HR.out)
          go_wp2_with fail
          go_roundw
          case rel =>
            obtain ⟨k1, k2, k3, k4, k5, k6⟩ := HE.out (.int .i64 ad) (.int .i64 (an % ad)) (.int .i64 bd) (.int .i64 (bn % bd)) (.cells #[.int .i64 bd, .int .i64 (bn % bd)] 83)
            with_reducible exact ⟨_, _, _, _, k1, k2, k3, k4, ⟨by omega, by omega, by omega, by omega, by omega, by omega, by omega, by omega⟩, HV, hbr.trans k5, Nat.le_trans hsr k6⟩
          case measure =>
            obtain ⟨k1, k2, k3, k4, k5, k6⟩ := HE.out (.int .i64 ad) (.int .i64 (an % ad)) (.int .i64 bd) (.int .i64 (bn % bd)) (.cells #[.int .i64 bd, .int .i64 (bn % bd)] 83)
            rw [den_box k1, den_box k3, HD.out.1, HD.out.2]
            omega
    · have HV := hide (HR.out.symm.trans (ltF_ne ha0 ha2 hb0 hb2 hpq))
      go_wp2_with fail
      go_ret
      exact ⟨ret_bool (by rw [HV.out]), hbr⟩


end Go.Proofs.YtajjophmngabbaaGreatDoor
