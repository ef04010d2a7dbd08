/-
  ROOTS ROUNDED UP; the step of a chart for a radius: the reference's and the program's. No condition but those that each theorem names.
-/
import Derived.Test.YtmpccakgpahpoaaCrane
namespace Go.Proofs.Ytmpccakgpahpoaa
open Go.RowKit
set_option linter.unusedVariables false

/-- r is the least number whose square is at least n. -/
def IsRt (n r : Int) : Prop := 0 ≤ r ∧ n ≤ r * r ∧ ∀ m, 0 ≤ m → m < r → m * m < n
theorem IsRt.unique {n r r' : Int} (h : IsRt n r) (h' : IsRt n r') : r = r' := by
  rcases Int.lt_trichotomy r r' with e | e | e
  · have := h'.2.2 r h.1 e; have := h.2.1; omega
  · exact e
  · have := h.2.2 r' h'.1 e; have := h'.2.1; omega
def rtF (n : Int) : Nat → Int → Int
  | 0, k => k
  | q + 1, k => if n ≤ k * k then k else rtF n q (k + 1)
theorem rtF_is (n : Int) : ∀ (q : Nat) (k : Int), 0 ≤ k → (∀ m, 0 ≤ m → m < k → m * m < n) → n ≤ (k + q) * (k + q) → IsRt n (rtF n q k)
  | 0, k, h0, h1, h2 => ⟨h0, by simpa [rtF] using h2, h1⟩
  | q + 1, k, h0, h1, h2 => by
    unfold rtF
    split
    · rename_i h; exact ⟨h0, h, h1⟩
    · rename_i h
      refine rtF_is n q (k + 1) (by omega) (fun m hm hk => ?_) (by rw [show k + 1 + (q : Int) = k + ((q + 1 : Nat) : Int) by omega]; exact h2)
      rcases Int.lt_or_le m k with h3 | h3
      · exact h1 m hm h3
      · obtain rfl : m = k := by omega
        omega
/-- The root of a number up to 10^9, rounded up. -/
def rt (n : Int) : Int := rtF n 40000 0
theorem rt_is {n : Int} (h : n ≤ 1600000000) : IsRt n (rt n) := rtF_is n 40000 0 (Int.le_refl _) (fun m h1 h2 => by omega) (by simpa using h)
theorem sq_mono {a b : Int} (h0 : 0 ≤ a) (h : a ≤ b) : a * a ≤ b * b := Int.mul_le_mul h h h0 (by omega)
/-- A step of the search. -/
theorem IsRt.up {n r m : Int} (h : IsRt n r) (hm : 0 ≤ m) (h2 : ¬ n ≤ m * m) : m + 1 ≤ r := by
  rcases Int.lt_or_le m r with e | e
  · omega
  · have := sq_mono h.1 e; have := h.2.1; omega
theorem IsRt.down {n r m : Int} (h : IsRt n r) (hm : 0 ≤ m) (h2 : n ≤ m * m) : r ≤ m := by
  rcases Int.lt_or_le m r with e | e
  · have := h.2.2 m hm e; omega
  · exact e
/-- The index of the first step whose radius is at least r, or -1. -/
def fIx (l : Chr) (r : Int) : Int := if l.findIdx (fun c => decide (r ≤ c.1)) < l.length then (l.findIdx (fun c => decide (r ≤ c.1)) : Nat) else -1
theorem fIx_at {l : Chr} {r : Int} {i : Nat} (hi : i < l.length) (h : r ≤ l[i].1) (hn : ∀ j (hj : j < l.length), j < i → l[j].1 < r) : fIx l r = i := by
  have e : l.findIdx (fun c => decide (r ≤ c.1)) = i := (List.findIdx_eq hi).2 ⟨by simpa using h, fun j hj => by have := hn j (by omega) hj; simp; omega⟩
  unfold fIx; rw [e, if_pos hi]
theorem fIx_no {l : Chr} {r : Int} (hn : ∀ j (hj : j < l.length), l[j].1 < r) : fIx l r = -1 := by
  have e : l.findIdx (fun c => decide (r ≤ c.1)) = l.length := List.findIdx_eq_length.2 (fun c hc => by obtain ⟨j, hj, rfl⟩ := List.mem_iff_getElem.1 hc; have := hn j hj; simp; omega)
  unfold fIx; rw [e, if_neg (by omega)]
theorem moreR {n i : Nat} {P : (j : Nat) → j < n → Prop} (h : ∀ j (hj : j < n), j < i → P j hj) {hi : i < n} (hk : P i hi) : ∀ j (hj : j < n), j < i + 1 → P j hj := by
  intro j hj h1
  rcases Nat.lt_or_ge j i with h2 | h2
  · exact h j hj h2
  · obtain rfl : j = i := by omega
    exact hk

set_option maxRecDepth 100000 in
set_option maxHeartbeats 2000000 in
theorem l02Root_any (n : Int) (h0 : 0 ≤ n) (hn : n ≤ 800000000) (w : World) :
    Calls Try.prog 100 #[.int .i64 n] w fun e w' => e = .returned (.int .i64 (rt n)) ∧ w' = w := by
  have HR := hide (rt_is (n := n) (by omega))
  obtain ⟨r, hr⟩ : ∃ r, rt n = r := ⟨_, rfl⟩
  rw [hr] at HR ⊢
  clear hr
  have hr0 : 0 ≤ r := HR.out.1
  have hr1 : r ≤ 40000 := HR.out.down (m := 40000) (by omega) (by omega)
  go_enter Try.func100, Try.ntmps100
  go_wp2_with fail
  go_loop [3, 4] (fun lo hi => ∃ a b : Int, 0 ≤ a ∧ a ≤ r ∧ r ≤ b ∧ b ≤ 2000000 ∧ lo = .int .i64 a ∧ hi = .int .i64 b) (fun lo hi => (intOf hi - intOf lo).toNat)
  case atStart => exact ⟨0, 2000000, by omega, hr0, by omega, by omega, rfl, rfl⟩
  case round =>
    obtain ⟨a, b, ha, har, hrb, hb, rfl, rfl⟩ := hrel
    by_cases hlt : a < b
    · have q1 : a ≤ (a + b) / 2 := by omega
      have q2 : (a + b) / 2 < b := by omega
      obtain ⟨p1, p2⟩ := sq_bd (d := (a + b) / 2) (q := 2000000) (by omega) (by omega)
      by_cases hc : n ≤ (a + b) / 2 * ((a + b) / 2)
      · have hd := HR.out.down (by omega) hc
        go_wp2_with fail
        go_round
        case rel => exact ⟨a, (a + b) / 2, ha, har, hd, by omega, rfl, rfl⟩
        case measure => simp [intOf]; omega
      · have hu := HR.out.up (by omega) hc
        go_wp2_with fail
        go_round
        case rel => exact ⟨(a + b) / 2 + 1, b, by omega, hu, hrb, hb, rfl, rfl⟩
        case measure => simp [intOf]; omega
    · obtain rfl : a = r := by omega
      obtain rfl : a = b := by omega
      go_wp2_with fail
      go_ret
      exact ⟨rfl, rfl⟩

set_option maxRecDepth 100000 in
set_option maxHeartbeats 2000000 in
theorem rootUp_any (n : Int) (h0 : 0 ≤ n) (hn : n ≤ 800000000) (w : World) :
    Calls Try.prog 104 #[.int .i64 n] w fun e w' => e = .returned (.int .i64 (rt n)) ∧ w' = w := by
  have HR := hide (rt_is (n := n) (by omega))
  obtain ⟨r, hr⟩ : ∃ r, rt n = r := ⟨_, rfl⟩
  rw [hr] at HR ⊢
  clear hr
  have hr0 : 0 ≤ r := HR.out.1
  have hr1 : r ≤ 40000 := HR.out.down (m := 40000) (by omega) (by omega)
  go_enter Try.func104, Try.ntmps104
  go_wp2_with fail
  go_loop [3, 4] (fun lo hi => ∃ a b : Int, 0 ≤ a ∧ a ≤ r ∧ r ≤ b ∧ b ≤ 1000000 ∧ lo = .int .i64 a ∧ hi = .int .i64 b) (fun lo hi => (intOf hi - intOf lo).toNat)
  case atStart => exact ⟨0, 1000000, by omega, hr0, by omega, by omega, rfl, rfl⟩
  case round =>
    obtain ⟨a, b, ha, har, hrb, hb, rfl, rfl⟩ := hrel
    by_cases hlt : a < b
    · have q1 : a ≤ (a + b) / 2 := by omega
      have q2 : (a + b) / 2 < b := by omega
      obtain ⟨p1, p2⟩ := sq_bd (d := (a + b) / 2) (q := 2000000) (by omega) (by omega)
      by_cases hc : n ≤ (a + b) / 2 * ((a + b) / 2)
      · have hd := HR.out.down (by omega) hc
        go_wp2_with fail
        go_round
        case rel => exact ⟨a, (a + b) / 2, ha, har, hd, by omega, rfl, rfl⟩
        case measure => simp [intOf]; omega
      · have hu := HR.out.up (by omega) hc
        go_wp2_with fail
        go_round
        case rel => exact ⟨(a + b) / 2 + 1, b, by omega, hu, hrb, hb, rfl, rfl⟩
        case measure => simp [intOf]; omega
    · obtain rfl : a = r := by omega
      obtain rfl : a = b := by omega
      go_wp2_with fail
      go_ret
      exact ⟨rfl, rfl⟩

set_option maxRecDepth 100000 in
set_option maxHeartbeats 2000000 in
theorem l03Find_any (A : Option Addr) (n c lo hi : Nat) (l : Chr) (r : Int) (hn : n ≤ 1048576) (w : World) (hl : l.length = n) (h : Rd w lo hi 2 A n (rChartStep l)) (hhi : hi ≤ w.heap.size) :
    Calls Try.prog 119 #[.slice A n c, .int .i64 r] w fun e w' => e = .returned (.int .i64 (fIx l r)) ∧ w = w' := by
  have H1 := hide hl
  have H2 := hide h
  clear hl h
  go_enter Try.func119, Try.ntmps119
  go_wp2_with fail
  go_loop [5] (fun ii => ∃ i : Nat, i ≤ n ∧ ii = .int .i64 i ∧ Hid (∀ j (hj : j < l.length), j < i → l[j].1 < r)) (fun ii => n - (intOf ii).toNat)
  case atStart => exact ⟨0, by omega, rfl, hide (fun j _ hj => absurd hj (by omega))⟩
  case round =>
    obtain ⟨i, hi', rfl, HO⟩ := hrel
    by_cases hlt : i < n
    · have hil : i < l.length := by rw [H1.out]; exact hlt
      obtain ⟨t0, t1⟩ := rChartStep_at l i hil
      obtain ⟨b, off, hA, hb1, hb2, hc⟩ := H2.out.2 (by omega)
      subst hA
      have c0 : w.cell? ⟨b, off + i * 2, none⟩ = some (.int .i64 l[i].1) := hc _ _ t0
      have c1 : w.cell? ⟨b, off + i * 2 + 1, none⟩ = some (.int .i64 l[i].2) := hc _ _ t1
      have x1 : (i : Int) < (n : Int) := by omega
      by_cases h1 : r ≤ l[i].1
      · skip
        have E := hide (fIx_at hil h1 HO.out)
        clear HO
        clear t0 t1 hc
        generalize l[i].1 = q at *
        generalize l[i].2 = z at *
        have h1' : decide (r ≤ q) = true := by simpa using h1
        go_wp2_with fail
        go_ret
        exact ⟨ret_int E.out.symm, rfl⟩
      · skip
        have h2 : l[i].1 < r := by omega
        have E := hide (moreR (P := fun j hj => l[j].1 < r) HO.out (hi := hil) h2)
        clear HO
        clear t0 t1 hc
        generalize l[i].1 = q at c0 h1 h2
        generalize l[i].2 = z at c1
        have h1' : decide (r ≤ q) = false := by simpa using h2
        go_wp2_with fail
        go_round
        case rel => exact ⟨i + 1, by omega, by go_num, E⟩
        case measure => simp [intOf]; omega
    · obtain rfl : i = n := by omega
      have E := hide (fIx_no (fun j hj => HO.out j hj (by rw [H1.out] at hj; exact hj)))
      clear HO
      go_wp2_with fail
      go_ret
      exact ⟨ret_int E.out.symm, rfl⟩

set_option maxRecDepth 100000 in
set_option maxHeartbeats 2000000 in
theorem stepFor1_any (q z r : Int) (p : Nat) (w : World) (hp : w.cell? ⟨p, 0, none⟩ = some (.int .i64 r)) (hpw : p < w.heap.size) :
    Calls Try.prog 129 #[.agg #[.int .i64 q, .int .i64 z], .pointer (some ⟨p, 0, none⟩)] w fun e w' => e = .returned (.bool (decide (r ≤ q))) ∧ Below w.heap.size w w' := by
  go_enter Try.func129, Try.ntmps129
  go_wp2_with fail
  all_goals (go_ret; exact ⟨ret_bool (by first | rfl | (simp; done) | (simp; omega)), (Below.refl _ _).alloc (Nat.le_refl _) _⟩)

set_option maxRecDepth 100000 in
set_option maxHeartbeats 2000000 in
theorem indexStep_any (A : Option Addr) (n c lo hi : Nat) (l : Chr) (r : Int) (hn : n ≤ 1048576) (w : World) (p : Nat) (hp : w.cell? ⟨p, 0, none⟩ = some (.int .i64 r)) (hpw : p < w.heap.size) (hl : l.length = n) (h : Rd w lo hi 2 A n (rChartStep l)) (hhi : hi ≤ w.heap.size) :
    Calls Try.prog 128 #[.slice A n c, .func (.func 129) #[] #[.pointer (some ⟨p, 0, none⟩)]] w fun e w' => e = .returned (.int .i64 (fIx l r)) ∧ Below w.heap.size w w' := by
  have H1 := hide hl
  have H2 := hide h
  clear hl h
  have HP := hide hp
  clear hp
  go_enter Try.func128, Try.ntmps128
  go_wp2_with fail
  go_loopw [8] (fun ii wr => ∃ i : Nat, i ≤ n ∧ ii = .int .i64 i ∧ Hid (∀ j (hj : j < l.length), j < i → l[j].1 < r) ∧ Below w.heap.size w wr) (fun ii _ => n - (intOf ii).toNat)
  case atStart => exact ⟨0, by omega, rfl, hide (fun j _ hj => absurd hj (by omega)), Below.refl _ _⟩
  case round =>
    obtain ⟨i, hi', rfl, HO, hbr⟩ := hrel
    have hsz := hbr.size
    by_cases hlt : i < n
    · have hil : i < l.length := by rw [H1.out]; exact hlt
      obtain ⟨t0, t1⟩ := rChartStep_at l i hil
      obtain ⟨b, off, hA, hb1, hb2, hc⟩ := H2.out.2 (by omega)
      subst hA
      have c0 : wr.cell? ⟨b, off + i * 2, none⟩ = some (.int .i64 l[i].1) := (hbr.cell (p := ⟨b, _, none⟩) (by show b < _; omega)).trans (hc _ _ t0)
      have c1 : wr.cell? ⟨b, off + i * 2 + 1, none⟩ = some (.int .i64 l[i].2) := (hbr.cell (p := ⟨b, _, none⟩) (by show b < _; omega)).trans (hc _ _ t1)
      have x1 : (i : Int) < (n : Int) := by omega
      have hpp := (hbr.cell (p := ⟨p, 0, none⟩) hpw).trans HP.out
      have hpl : p < wr.heap.size := by omega
      have hbl : b < wr.heap.size := by omega
      by_cases h1 : r ≤ l[i].1
      · skip
        have E := hide (fIx_at hil h1 HO.out)
        clear HO
        clear t0 t1 hc
        generalize l[i].1 = q at *
        generalize l[i].2 = z at *
        have h1' : decide (r ≤ q) = true := by simpa using h1
        go_wp2_with fail
        refine (stepFor1_any q z r p _ hpp hpl).mono ?_
        rintro e w1 ⟨rfl, hb1'⟩
        clear c0 c1 hpp
        go_wp2_with fail
        go_ret
        exact ⟨ret_int E.out.symm, hbr.trans (hb1'.mono hsz)⟩
      · skip
        have h2 : l[i].1 < r := by omega
        have E := hide (moreR (P := fun j hj => l[j].1 < r) HO.out (hi := hil) h2)
        clear HO
        clear t0 t1 hc
        generalize l[i].1 = q at c0 h1 h2
        generalize l[i].2 = z at c1
        have h1' : decide (r ≤ q) = false := by simpa using h2
        go_wp2_with fail
        refine (stepFor1_any q z r p _ hpp hpl).mono ?_
        rintro e w1 ⟨rfl, hb1'⟩
        clear c0 c1 hpp
        go_wp2_with fail
        go_roundw
        case rel => exact ⟨i + 1, by omega, by go_num, E, hbr.trans (hb1'.mono hsz)⟩
        case measure => simp [intOf]; omega
    · obtain rfl : i = n := by omega
      have E := hide (fIx_no (fun j hj => HO.out j hj (by rw [H1.out] at hj; exact hj)))
      clear HO
      go_wp2_with fail
      go_ret
      exact ⟨ret_int E.out.symm, hbr⟩

set_option maxRecDepth 100000 in
set_option maxHeartbeats 2000000 in
theorem stepFor_any (A : Option Addr) (n c lo hi : Nat) (l : Chr) (r : Int) (hn : n ≤ 1048576) (w : World) (hl : l.length = n) (h : Rd w lo hi 2 A n (rChartStep l)) (hhi : hi ≤ w.heap.size) :
    Calls Try.prog 121 #[.slice A n c, .int .i64 r] w fun e w' => e = .returned (.int .i64 (fIx l r)) ∧ Below w.heap.size w w' := by
  have H1 := hide hl
  have HR := hide (fun o => h.alloc hhi o)
  clear hl h
  go_enter Try.func121, Try.ntmps121
  go_wp2_with fail
  refine (indexStep_any A n c lo hi l r hn _ w.heap.size (new_cell _ _ _ 0) (by simp) H1.out (HR.out _) (by simp; omega)).mono ?_
  rintro e w1 ⟨rfl, hb1⟩
  have hbb := ((Below.refl _ _).alloc (Nat.le_refl _) _).trans (hb1.mono (by simp))
  clear hb1
  go_wp2_with fail
  go_ret
  exact ⟨rfl, hbb⟩

end Go.Proofs.Ytmpccakgpahpoaa
