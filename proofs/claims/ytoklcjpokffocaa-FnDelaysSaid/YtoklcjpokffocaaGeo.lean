/-
  GEOMETRY, as the reference computes it on any numbers: it ends, it does not fail, and it leaves memory as it was. What it computes is left open. No condition but those that each theorem names.
-/
import Derived.Test.YtoklcjpokffocaaSrc
import Derived.Test.YtoklcjpokffocaaBox
namespace Go.Proofs.Ytoklcjpokffocaa
open Go.RowKit
set_option linter.unusedVariables false
set_option linter.unusedSimpArgs false

/-- A number that fits. -/
def I64 (x : Int) : Prop := -9223372036854775808 ≤ x ∧ x ≤ 9223372036854775807
theorem I64.wrap (x : Int) : I64 (wrap64 x) := by unfold I64 wrap64; omega
theorem I64.lit {x : Int} (h : -9223372036854775808 ≤ x ∧ x ≤ 9223372036854775807) : I64 x := h
/-- The call returns some number, and touches nothing old. -/
def AnI (w : World) (e : Ending) (w' : World) : Prop := ∃ x : Int, e = .returned (.int .i64 x) ∧ I64 x ∧ Below w.heap.size w w'
def AnB (w : World) (e : Ending) (w' : World) : Prop := ∃ y : Bool, e = .returned (.bool y) ∧ Below w.heap.size w w'
def AnP (w : World) (e : Ending) (w' : World) : Prop := ∃ x y : Int, e = .returned (.agg #[.int .i64 x, .int .i64 y]) ∧ Below w.heap.size w w'
def AnS (w : World) (e : Ending) (w' : World) : Prop := ∃ x y z u : Int, e = .returned (.agg #[.int .i64 x, .int .i64 y, .int .i64 z, .int .i64 u]) ∧ Below w.heap.size w w'
/-- Some fraction whose denominator is not 0. -/
def AnF (w : World) (e : Ending) (w' : World) : Prop := ∃ n d : Int, e = .returned (.agg #[.int .i64 n, .int .i64 d]) ∧ (d ≠ 0 ∧ I64 d) ∧ Below w.heap.size w w'
theorem tmod_lt (a b : Int) (h : b ≠ 0) : (a.tmod b).natAbs < b.natAbs := by
  rw [Int.natAbs_tmod]; exact Nat.mod_lt _ (by omega)
theorem I64.tmod {a b : Int} (h : b ≠ 0) (hb : I64 b) : I64 (a.tmod b) := by
  have := tmod_lt a b h
  unfold I64 at *; omega
/-- A number by one that is not greater is not 0. -/
theorem tdiv_ne {d g : Int} (hg : g ≠ 0) (h : g.natAbs ≤ d.natAbs) (hd : d ≠ 0) : d.tdiv g ≠ 0 := by
  intro e
  have h1 : (d.tdiv g).natAbs = d.natAbs / g.natAbs := Int.natAbs_tdiv d g
  rw [e] at h1
  have h2 : 0 < d.natAbs / g.natAbs := Nat.div_pos h (by omega)
  simp at h1
  omega
theorem tdiv_wrap {d g : Int} (hd : I64 d) (hg : g ≠ 0) (h : d.tdiv g ≠ 0) : wrap64 (d.tdiv g) ≠ 0 := by
  have h1 : (d.tdiv g).natAbs = d.natAbs / g.natAbs := Int.natAbs_tdiv d g
  have h2 : d.natAbs / g.natAbs ≤ d.natAbs := Nat.div_le_self _ _
  unfold I64 at hd
  unfold wrap64
  omega

set_option maxRecDepth 100000 in
set_option maxHeartbeats 2000000 in
theorem l00Min_g (a b : Int) (w : World) :
    Calls Try.prog 76 #[.int .i64 a, .int .i64 b] w fun e w' => e = .returned (.int .i64 (if a < b then a else b)) ∧ w' = w := by
  by_cases h : a < b
  all_goals
    go_enter Try.func76, Try.ntmps76
    go_wp2
    all_goals (go_ret; exact ⟨ret_int (by simp [h]), rfl⟩)

set_option maxRecDepth 100000 in
set_option maxHeartbeats 2000000 in
theorem l00Max_g (a b : Int) (w : World) :
    Calls Try.prog 50 #[.int .i64 a, .int .i64 b] w fun e w' => e = .returned (.int .i64 (if a > b then a else b)) ∧ w' = w := by
  by_cases h : a > b
  all_goals
    go_enter Try.func50, Try.ntmps50
    go_wp2
    all_goals (go_ret; exact ⟨ret_int (by simp [h]), rfl⟩)

set_option maxRecDepth 100000 in
set_option maxHeartbeats 2000000 in
theorem l02Square_g (ax ay px py : Int) (w : World) :
    Calls Try.prog 86 #[.agg #[.int .i64 ax, .int .i64 ay], .agg #[.int .i64 px, .int .i64 py]] w (AnI w) := by
  go_enter Try.func86, Try.ntmps86
  go_wp2_with fail
  go_ret
  exact ⟨_, rfl, I64.wrap _, (((Below.refl _ _).alloc (Nat.le_refl _) _).alloc (by simp) _)⟩

set_option maxRecDepth 100000 in
set_option maxHeartbeats 2000000 in
theorem l14Cross_g (ax ay bx cy px py : Int) (w : World) :
    Calls Try.prog 84 #[.agg #[.int .i64 ax, .int .i64 ay, .int .i64 bx, .int .i64 cy], .agg #[.int .i64 px, .int .i64 py]] w (AnI w) := by
  go_enter Try.func84, Try.ntmps84
  go_wp2_with fail
  go_ret
  exact ⟨_, rfl, I64.wrap _, (((Below.refl _ _).alloc (Nat.le_refl _) _).alloc (by simp) _)⟩

set_option maxRecDepth 100000 in
set_option maxHeartbeats 2000000 in
theorem l14Dot_g (ax ay bx cy px py : Int) (w : World) :
    Calls Try.prog 87 #[.agg #[.int .i64 ax, .int .i64 ay, .int .i64 bx, .int .i64 cy], .agg #[.int .i64 px, .int .i64 py]] w (AnI w) := by
  go_enter Try.func87, Try.ntmps87
  go_wp2_with fail
  go_ret
  exact ⟨_, rfl, I64.wrap _, (((Below.refl _ _).alloc (Nat.le_refl _) _).alloc (by simp) _)⟩

set_option maxRecDepth 100000 in
set_option maxHeartbeats 2000000 in
theorem l14Sign_g (n : Int) (w : World) :
    Calls Try.prog 83 #[.int .i64 n] w (AnI w) := by
  rcases (show n < 0 ∨ n = 0 ∨ 0 < n by omega) with h | h | h
  all_goals
    try subst h
    go_enter Try.func83, Try.ntmps83
    go_wp2
    go_ret
    exact ⟨_, rfl, I64.lit (by omega), Below.refl _ _⟩

set_option maxRecDepth 100000 in
set_option maxHeartbeats 2000000 in
theorem l14Gcd_g (a0 b0 : Int) (hz : b0 ≠ 0) (hb : I64 b0) (w : World) :
    Calls Try.prog 89 #[.int .i64 a0, .int .i64 b0] w fun e w' => ∃ g : Int, e = .returned (.int .i64 g) ∧ g ≠ 0 ∧ g.natAbs ≤ b0.natAbs ∧ Below w.heap.size w w' := by
  go_enter Try.func89, Try.ntmps89
  go_wp2
  go_loopw [0, 1] (fun a b wr => ∃ x y : Int, I64 y ∧ a = .int .i64 x ∧ b = .int .i64 y ∧ Hid (y.natAbs ≤ b0.natAbs ∧ (y = 0 → x ≠ 0 ∧ x.natAbs ≤ b0.natAbs)) ∧ Below w.heap.size w wr) (fun _ b _ => (intOf b).natAbs)
  case atStart => exact ⟨a0, b0, hb, rfl, rfl, hide ⟨Nat.le_refl _, fun h => absurd h hz⟩, Below.refl _ _⟩
  case round =>
    obtain ⟨x, y, hy, rfl, rfl, HP, hbr⟩ := hrel
    by_cases hy0 : y = 0
    · obtain ⟨hx1, hx2⟩ := HP.out.2 hy0
      subst hy0
      go_wp2
      go_ret
      exact ⟨x, rfl, hx1, hx2, hbr⟩
    · have hlt := tmod_lt x y hy0
      have hI := I64.tmod (a := x) hy0 hy
      have hw : wrap64 (x.tmod y) = x.tmod y := IntWalk.wrap64_in _ hI
      have H1 := hide hw
      have H2 := hide hI
      have H3 := hide hlt
      clear hw hI hlt hz hb
      go_wp2_with fail
      try go_quiet (fail)
      try go_wp2_with fail
      go_roundw
      case rel =>
        exact ⟨y, x.tmod y, H2.out, rfl, by first | rfl | exact vint H1.out, hide ⟨by have := H3.out; have := HP.out.1; omega, fun _ => ⟨hy0, HP.out.1⟩⟩, by first | exact hbr | exact hbr.trans (Joins.below_draws _ _ _)⟩
      case measure =>
        have h3 := H3.out
        first | exact h3 | (show (wrap64 (x.tmod y)).natAbs < y.natAbs; rw [H1.out]; exact h3)

set_option maxRecDepth 100000 in
set_option maxHeartbeats 2000000 in
theorem l14Make_g (n d : Int) (hd : d ≠ 0) (hI : I64 d) (w : World) :
    Calls Try.prog 88 #[.int .i64 n, .int .i64 d] w (AnF w) := by
  go_enter Try.func88, Try.ntmps88
  go_wp2_with fail
  refine (l14Gcd_g n d hd hI _).mono ?_
  rintro e w1 ⟨g, rfl, hg, hgd, hb1⟩
  have HD := hide (tdiv_wrap hI hg (tdiv_ne hg hgd hd))
  clear hgd
  obtain ⟨hc1, hf1⟩ := bcell hb1
  have hs1 : w.heap.size < w1.heap.size := by have h := hb1.size; simp at h; omega
  have d0 : w1.cell? ⟨w.heap.size, 0, none⟩ = some (.int .i64 0) := (hc1 w.heap.size 0 (by simp)).trans (new_cell _ _ _ _)
  have d1 : w1.cell? ⟨w.heap.size, 1, none⟩ = some (.int .i64 0) := (hc1 w.heap.size 1 (by simp)).trans (new_cell _ _ _ _)
  have f0 : w1.frozen? ⟨w.heap.size, 0, none⟩ = false := (hf1 w.heap.size 0 (by simp)).trans (new_frozen _ _ _ _)
  have f1 : w1.frozen? ⟨w.heap.size, 1, none⟩ = false := (hf1 w.heap.size 1 (by simp)).trans (new_frozen _ _ _ _)
  clear hc1 hf1
  go_wp2_with fail
  go_region
  go_wp2_with fail
  refine bodyPost_ret (v := .agg #[.int .i64 _, .int .i64 (wrap64 (d.tdiv g))]) (by simp [results, Try.results88, go_sem, d0, d1]; first | done | rfl | exact ⟨rfl, rfl⟩) rfl ⟨_, _, rfl, ⟨HD.out, I64.wrap _⟩, ?_⟩
  exact ((((((Below.refl _ _).alloc (Nat.le_refl _) _).trans (hb1.mono (by simp))).setCell (Nat.le_refl _) _).setCell (Nat.le_refl _) _)).drew

/-- The size of the number in a block's second cell. -/
def den (W : World) (b : Nat) : Nat := match W.cell? ⟨b, 1, none⟩ with | some v => (intOf v).natAbs | none => 0
theorem den_box {W : World} {b : Nat} {v : Value} {x : Int} (h : Box W b [v, .int .i64 x]) : den W b = x.natAbs := by
  unfold den; rw [h 1 _ rfl]; rfl
theorem less_end {wr : World} {a b : Nat} {x0 x1 y0 y1 x y z u : Value} {o : Obj} (hab : a < b) (hb : b < wr.heap.size) (bA : Box wr a [x0, x1]) (fA : Fz wr a) (bB : Box wr b [y0, y1]) (fB : Fz wr b) :
    Box (((((wr.setCell ⟨b, 0, none⟩ x).setCell ⟨b, 1, none⟩ y).setCell ⟨a, 0, none⟩ z).setCell ⟨a, 1, none⟩ u).alloc o) a [z, u] ∧ Fz (((((wr.setCell ⟨b, 0, none⟩ x).setCell ⟨b, 1, none⟩ y).setCell ⟨a, 0, none⟩ z).setCell ⟨a, 1, none⟩ u).alloc o) a ∧
    Box (((((wr.setCell ⟨b, 0, none⟩ x).setCell ⟨b, 1, none⟩ y).setCell ⟨a, 0, none⟩ z).setCell ⟨a, 1, none⟩ u).alloc o) b [x, y] ∧ Fz (((((wr.setCell ⟨b, 0, none⟩ x).setCell ⟨b, 1, none⟩ y).setCell ⟨a, 0, none⟩ z).setCell ⟨a, 1, none⟩ u).alloc o) b ∧
    Below a wr (((((wr.setCell ⟨b, 0, none⟩ x).setCell ⟨b, 1, none⟩ y).setCell ⟨a, 0, none⟩ z).setCell ⟨a, 1, none⟩ u).alloc o) ∧ wr.heap.size ≤ (((((wr.setCell ⟨b, 0, none⟩ x).setCell ⟨b, 1, none⟩ y).setCell ⟨a, 0, none⟩ z).setCell ⟨a, 1, none⟩ u).alloc o).heap.size := by
  obtain ⟨W1, h1⟩ : ∃ W, W = wr.setCell ⟨b, 0, none⟩ x := ⟨_, rfl⟩
  obtain ⟨W2, h2⟩ : ∃ W, W = W1.setCell ⟨b, 1, none⟩ y := ⟨_, rfl⟩
  obtain ⟨W3, h3⟩ : ∃ W, W = W2.setCell ⟨a, 0, none⟩ z := ⟨_, rfl⟩
  obtain ⟨W4, h4⟩ : ∃ W, W = W3.setCell ⟨a, 1, none⟩ u := ⟨_, rfl⟩
  rw [← h1, ← h2, ← h3, ← h4]
  have b1 : Box W1 b [x, y1] := by rw [h1]; exact bB.put 0 x (by simp)
  have b2 : Box W2 b [x, y] := by rw [h2]; exact b1.put 1 y (by simp)
  have b3 : Box W3 b [x, y] := by rw [h3]; exact b2.far _ _ (by show a ≠ b; omega)
  have b4 : Box W4 b [x, y] := by rw [h4]; exact b3.far _ _ (by show a ≠ b; omega)
  have a1 : Box W1 a [x0, x1] := by rw [h1]; exact bA.far _ _ (by show b ≠ a; omega)
  have a2 : Box W2 a [x0, x1] := by rw [h2]; exact a1.far _ _ (by show b ≠ a; omega)
  have a3 : Box W3 a [z, x1] := by rw [h3]; exact a2.put 0 z (by simp)
  have a4 : Box W4 a [z, u] := by rw [h4]; exact a3.put 1 u (by simp)
  have f4 : Fz W4 a := by rw [h4, h3, h2, h1]; exact (((fA.set _ _).set _ _).set _ _).set _ _
  have g4 : Fz W4 b := by rw [h4, h3, h2, h1]; exact (((fB.set _ _).set _ _).set _ _).set _ _
  have B1 : Below a wr W1 := by rw [h1]; exact (Below.refl a wr).setCell (by show a ≤ b; omega) _
  have B2 : Below a wr W2 := by rw [h2]; exact B1.setCell (by show a ≤ b; omega) _
  have B3 : Below a wr W3 := by rw [h3]; exact B2.setCell (by show a ≤ a; omega) _
  have B4 : Below a wr W4 := by rw [h4]; exact B3.setCell (by show a ≤ a; omega) _
  have hs := B4.size
  clear h1 h2 h3 h4
  exact ⟨a4.alloc (by omega) _, f4.alloc (by omega) _, b4.alloc (by omega) _, g4.alloc (by omega) _, B4.alloc (by omega) _, by simp; omega⟩

set_option maxRecDepth 100000 in
set_option maxHeartbeats 2000000 in
theorem l14Less_g (an ad bn bd : Int) (ha : ad ≠ 0) (hai : I64 ad) (hb : bd ≠ 0) (hbi : I64 bd) (w : World) :
    Calls Try.prog 77 #[.agg #[.int .i64 an, .int .i64 ad], .agg #[.int .i64 bn, .int .i64 bd]] w (AnB w) := by
  go_enter Try.func77, Try.ntmps77
  go_wp2_with fail
  obtain ⟨W0, hW0⟩ : ∃ W0 : World, W0 = ((w.alloc (.cells #[.int .i64 an, .int .i64 ad] 102)).alloc (.cells #[.int .i64 bn, .int .i64 bd] 102)) := ⟨_, rfl⟩
  rw [← hW0]
  have bA : Box W0 w.heap.size [.int .i64 an, .int .i64 ad] := by rw [hW0]; exact (box_at _ _ _ _ (by simp)).alloc (by simp) _
  have fA : Fz W0 w.heap.size := by rw [hW0]; exact (fz_at _ _ _ _ (by simp)).alloc (by simp) _
  have bB : Box W0 (w.heap.size + 1) [.int .i64 bn, .int .i64 bd] := by rw [hW0]; exact box_at _ _ _ _ (by simp)
  have fB : Fz W0 (w.heap.size + 1) := by rw [hW0]; exact fz_at _ _ _ _ (by simp)
  have hB : Below w.heap.size w W0 := by rw [hW0]; exact ((Below.refl _ _).alloc (Nat.le_refl _) _).alloc (by simp) _
  have hs0 : w.heap.size + 2 ≤ W0.heap.size := by rw [hW0]; simp
  clear hW0
  go_loopw [] (fun wr => ∃ an ad bn bd : Int, Box wr w.heap.size [.int .i64 an, .int .i64 ad] ∧ Fz wr w.heap.size ∧ Box wr (w.heap.size + 1) [.int .i64 bn, .int .i64 bd] ∧ Fz wr (w.heap.size + 1) ∧ (ad ≠ 0 ∧ I64 ad ∧ bd ≠ 0 ∧ I64 bd) ∧ Below w.heap.size w wr ∧ w.heap.size + 2 ≤ wr.heap.size) (fun wr => den wr w.heap.size + den wr (w.heap.size + 1))
  case atStart => exact ⟨an, ad, bn, bd, bA, fA, bB, fB, ⟨ha, hai, hb, hbi⟩, hB, hs0⟩
  case round =>
    clear bA fA bB fB ha hai hb hbi hB hs0
    obtain ⟨an, ad, bn, bd, bA, fA, bB, fB, ⟨ha, hai, hb, hbi⟩, hbr, hsr⟩ := hrel
    have a0 := bA 0 _ rfl
    have a1 := bA 1 _ rfl
    have b0 := bB 0 _ rfl
    have b1 := bB 1 _ rfl
    have fa0 := fA 0
    have fa1 := fA 1
    have fb0 := fB 0
    have fb1 := fB 1
    have HX := hide (tmod_lt an ad ha)
    have HY := hide (tmod_lt bn bd hb)
    have HXI := hide (I64.tmod (a := an) ha hai)
    have HYI := hide (I64.tmod (a := bn) hb hbi)
    have HXW := hide (IntWalk.wrap64_in _ HXI.out)
    have HYW := hide (IntWalk.wrap64_in _ HYI.out)
    have HE := hide (fun (x y z u : Value) (o : Obj) => less_end (b := w.heap.size + 1) (x := x) (y := y) (z := z) (u := u) (o := o) (by omega) (by omega) bA fA bB fB)
    have HD := hide (And.intro (den_box bA) (den_box bB))
    clear bA bB fA fB
    have nA : w.heap.size < wr.heap.size := by omega
    have nB : w.heap.size + 1 < wr.heap.size := by omega
    by_cases hpq : wrap64 (an.tdiv ad) = wrap64 (bn.tdiv bd)
    · by_cases hx : an.tmod ad = 0
      · go_wp2_with fail
        go_ret
        exact ⟨_, rfl, hbr⟩
      · by_cases hy : bn.tmod bd = 0
        · go_wp2_with fail
          go_ret
          exact ⟨_, rfl, hbr⟩
        · have hx' : (an.tmod ad == 0) = false := by simpa using hx
          have hy' : (bn.tmod bd == 0) = false := by simpa using hy
          go_wp2_with fail
          go_roundw
          case rel =>
            obtain ⟨k1, k2, k3, k4, k5, k6⟩ := HE.out (.int .i64 ad) (.int .i64 (an.tmod ad)) (.int .i64 bd) (.int .i64 (bn.tmod bd)) (.cells #[.int .i64 bd, .int .i64 (bn.tmod bd)] 102)
            with_reducible exact ⟨_, _, _, _, k1, k2, k3, k4, ⟨hy, HYI.out, hx, HXI.out⟩, hbr.trans k5, Nat.le_trans hsr k6⟩
          case measure =>
            obtain ⟨k1, k2, k3, k4, k5, k6⟩ := HE.out (.int .i64 ad) (.int .i64 (an.tmod ad)) (.int .i64 bd) (.int .i64 (bn.tmod bd)) (.cells #[.int .i64 bd, .int .i64 (bn.tmod bd)] 102)
            rw [den_box k1, den_box k3, HD.out.1, HD.out.2]
            have h1 := HX.out
            have h2 := HY.out
            omega
    · go_wp2_with fail
      go_ret
      exact ⟨_, rfl, hbr⟩


end Go.Proofs.Ytoklcjpokffocaa
