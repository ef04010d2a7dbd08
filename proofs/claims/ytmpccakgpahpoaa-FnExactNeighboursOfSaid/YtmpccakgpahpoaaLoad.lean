/-
  LOADS: of a chart at a radius, of a crane at a place: the reference's and the program's. No condition but those that each theorem names.
-/
import Derived.Test.YtmpccakgpahpoaaRoot
import Derived.Deep.QuietTactic
import Derived.BigQuiet
namespace Go.Proofs.Ytmpccakgpahpoaa
open Go.RowKit
set_option linter.unusedVariables false

/-- A quotient rounded up. -/
def upD (n d : Int) : Int := (n + d - 1).tdiv d
theorem upD_le {n d q : Int} (h0 : 0 ≤ n) (hd : 0 < d) (h : n ≤ q * d) : 0 ≤ upD n d ∧ upD n d ≤ q := by
  unfold upD
  rw [Int.tdiv_eq_ediv_of_nonneg (by omega)]
  refine ⟨Int.ediv_nonneg (by omega) (by omega), ?_⟩
  have : (n + d - 1) / d < q + 1 := Int.ediv_lt_of_lt_mul hd (by rw [Int.add_mul]; omega)
  omega
theorem fIx_cases (l : Chr) (r : Int) : fIx l r = -1 ∨ ∃ i, ∃ hi : i < l.length, fIx l r = (i : Int) ∧ r ≤ l[i].1 ∧ ∀ j (hj : j < l.length), j < i → l[j].1 < r := by
  by_cases h : l.findIdx (fun c => decide (r ≤ c.1)) < l.length
  · right
    refine ⟨_, h, by unfold fIx; rw [if_pos h], ?_, ?_⟩
    · have := List.findIdx_getElem (w := h); simpa using this
    · intro j hj hlt; have := List.not_of_lt_findIdx hlt; simpa using this
  · left; unfold fIx; rw [if_neg h]
theorem chB_step {l : Chr} (h : chB l = true) {i : Nat} (hi : i + 1 < l.length) : 1 ≤ l[i].1 ∧ l[i].1 < l[i + 1].1 ∧ l[i + 1].1 ≤ 1000 ∧ 0 ≤ l[i + 1].2 ∧ l[i + 1].2 ≤ l[i].2 ∧ l[i].2 ≤ 50000 := by
  have h1 := (chB_true h).1 (i + 1) hi
  have h2 := (chB_true h).1 i (by omega)
  simp only [okS, List.getD, List.getElem?_eq_getElem hi, List.getElem?_eq_getElem (show i < l.length by omega), Nat.add_sub_cancel, Option.getD_some, Bool.and_eq_true] at h1 h2
  obtain ⟨a1, a2⟩ := inR_true h1.1
  obtain ⟨a3, a4⟩ := inR_true h1.2.1
  obtain ⟨b1, b2⟩ := inR_true h2.1
  obtain ⟨b3, b4⟩ := inR_true h2.2.1
  have h3 := h1.2.2
  simp at h3
  omega
theorem chB_zero {l : Chr} (h : chB l = true) (hi : 0 < l.length) : 0 ≤ l[0].2 ∧ l[0].2 ≤ 50000 := by
  have h2 := (chB_true h).1 0 (by omega)
  simp only [okS, List.getD, List.getElem?_eq_getElem hi, Option.getD_some, Bool.and_eq_true] at h2
  exact inR_true h2.2.1
/-- The load between two steps of a chart. -/
def ldP (a b : Int × Int) (r : Int) : Int := a.2 - upD ((a.2 - b.2) * (r - a.1)) (b.1 - a.1)
/-- The load of a chart at a radius, or -1. -/
def ldI (l : Chr) (r : Int) : Int := if fIx l r < 0 then -1 else if fIx l r = 0 then (l.getD 0 (0, 0)).2 else ldP (l.getD ((fIx l r).toNat - 1) (0, 0)) (l.getD (fIx l r).toNat (0, 0)) r
theorem ldI_no {l : Chr} {r : Int} (h : fIx l r = -1) : ldI l r = -1 := by simp [ldI, h]
theorem ldI_0 {l : Chr} {r : Int} (h : fIx l r = 0) (hi : 0 < l.length) : ldI l r = l[0].2 := by simp [ldI, h, List.getD, hi]
theorem ldI_s {l : Chr} {r : Int} {i : Nat} (h : fIx l r = (i : Int) + 1) (hi : i + 1 < l.length) : ldI l r = ldP l[i] l[i + 1] r := by
  have e : ((i : Int) + 1).toNat = i + 1 := by omega
  unfold ldI
  rw [h, if_neg (by omega), if_neg (by omega), e, Nat.add_sub_cancel]
  simp only [List.getD, List.getElem?_eq_getElem hi, List.getElem?_eq_getElem (show i < l.length by omega), Option.getD_some]
theorem mul_bd {a b p q : Int} (h0 : 0 ≤ a) (h1 : a ≤ p) (h2 : 0 ≤ b) (h3 : b ≤ q) : 0 ≤ a * b ∧ a * b ≤ p * q :=
  ⟨Int.mul_nonneg h0 h2, Int.mul_le_mul h1 h3 h2 (by omega)⟩
theorem ldP_bd {a b : Int × Int} {r : Int} (h1 : a.1 < b.1) (h2 : 0 ≤ b.2) (h3 : b.2 ≤ a.2) (h4 : a.1 ≤ r) (h5 : r ≤ b.1) : b.2 ≤ ldP a b r ∧ ldP a b r ≤ a.2 := by
  have := upD_le (n := (a.2 - b.2) * (r - a.1)) (d := b.1 - a.1) (q := a.2 - b.2) (Int.mul_nonneg (by omega) (by omega)) (by omega) (Int.mul_le_mul_of_nonneg_left (by omega) (by omega))
  unfold ldP; omega
theorem ldI_bd {l : Chr} (h : chB l = true) (r : Int) : -1 ≤ ldI l r ∧ ldI l r ≤ 50000 := by
  rcases fIx_cases l r with e | ⟨i, hi, e, h1, h2⟩
  · rw [ldI_no e]; omega
  · rcases Nat.eq_zero_or_pos i with rfl | hp
    · rw [ldI_0 (by simpa using e) hi]; have := chB_zero h hi; omega
    · obtain ⟨k, rfl⟩ : ∃ k, i = k + 1 := ⟨i - 1, by omega⟩
      have q := chB_step h hi
      have h3 := h2 k (by omega) (by omega)
      rw [ldI_s (by rw [e]; omega) hi]
      have := ldP_bd (a := l[k]) (b := l[k + 1]) (r := r) (by omega) (by omega) (by omega) (by omega) h1
      omega
theorem ldI_neg {l : Chr} (h : chB l = true) (r : Int) : (ldI l r < 0) = (fIx l r < 0) := by
  apply propext
  rcases fIx_cases l r with e | ⟨i, hi, e, h1, h2⟩
  · rw [ldI_no e, e]
  · rcases Nat.eq_zero_or_pos i with rfl | hp
    · rw [ldI_0 (by simpa using e) hi, e]; have := chB_zero h hi; omega
    · obtain ⟨k, rfl⟩ : ∃ k, i = k + 1 := ⟨i - 1, by omega⟩
      have q := chB_step h hi
      have h3 := h2 k (by omega) (by omega)
      rw [ldI_s (by rw [e]; omega) hi, e]
      have := ldP_bd (a := l[k]) (b := l[k + 1]) (r := r) (by omega) (by omega) (by omega) (by omega) h1
      omega
def ldV (v : Int) : Int := if v < 0 then 0 else v
def ldK (v : Int) : Bool := !decide (v < 0)
theorem ldV_no : ldV (-1) = 0 := rfl
theorem ldK_no : ldK (-1) = false := rfl
theorem ldV_in {v : Int} (h : 0 ≤ v) : ldV v = v := if_neg (by omega)
theorem ldK_in {v : Int} (h : 0 ≤ v) : ldK v = true := by simp [ldK]; omega
theorem ret_ld {v a : Int} {b : Bool} (h : ldV v = a) (hb : ldK v = b) : Ending.returned (.tuple #[.int .i64 a, .bool b]) = .returned (.tuple #[.int .i64 (ldV v), .bool (ldK v)]) := by rw [h, hb]
theorem two_new (W : World) (x y z t : Value) (T : TypeId) : let X := ((W.alloc (.cells #[x, y] T)).alloc (.cells #[z, t] T)).drew
    X.cell? ⟨W.heap.size, 0, none⟩ = some x ∧ X.cell? ⟨W.heap.size, 1, none⟩ = some y ∧ X.cell? ⟨W.heap.size + 1, 0, none⟩ = some z ∧ X.cell? ⟨W.heap.size + 1, 1, none⟩ = some t ∧ Below W.heap.size W X ∧ W.heap.size < X.heap.size ∧ W.heap.size + 1 < X.heap.size := by
  have hb := (Below.refl (W.alloc (.cells #[x, y] T)).heap.size (W.alloc (.cells #[x, y] T))).alloc (Nat.le_refl _) (.cells #[z, t] T)
  have hs : (W.alloc (.cells #[x, y] T)).heap.size = W.heap.size + 1 := by simp
  have hz : ((W.alloc (.cells #[x, y] T)).alloc (.cells #[z, t] T)).heap.size = W.heap.size + 2 := by simp
  refine ⟨?_, ?_, ?_, ?_, ((((Below.refl W.heap.size W).alloc (Nat.le_refl _) (.cells #[x, y] T)).alloc (by simp) (.cells #[z, t] T))).trans (show Below _ _ (World.drew _) from Joins.below_draws _ _ 1), ?_, ?_⟩
  · exact (hb.cell (p := ⟨W.heap.size, 0, none⟩) (by rw [hs]; show W.heap.size < _; omega)).trans (new_cell _ _ _ 0)
  · exact (hb.cell (p := ⟨W.heap.size, 1, none⟩) (by rw [hs]; show W.heap.size < _; omega)).trans (new_cell _ _ _ 1)
  · rw [← hs]; exact new_cell _ _ _ 0
  · rw [← hs]; exact new_cell _ _ _ 1
  · show W.heap.size < ((W.alloc (.cells #[x, y] T)).alloc (.cells #[z, t] T)).heap.size; omega
  · show W.heap.size + 1 < ((W.alloc (.cells #[x, y] T)).alloc (.cells #[z, t] T)).heap.size; omega

set_option maxRecDepth 100000 in
set_option maxHeartbeats 2000000 in
theorem l03Up_any (n d : Int) (h0 : 0 ≤ n) (h1 : n ≤ 1000000000) (h2 : 0 < d) (h3 : d ≤ 1000000) (w : World) :
    Calls Try.prog 120 #[.int .i64 n, .int .i64 d] w fun e w' => e = .returned (.int .i64 (upD n d)) ∧ w' = w := by
  have hd : d ≠ 0 := by omega
  have hq := upD_le (n := n) (d := d) (q := n) h0 h2 (by rw [show n * d = n + n * (d - 1) by rw [Int.mul_sub]; omega]; have := Int.mul_nonneg h0 (show (0 : Int) ≤ d - 1 by omega); omega)
  unfold upD at *
  go_enter Try.func120, Try.ntmps120
  go_wp2_with fail
  go_ret
  exact ⟨ret_int (by first | rfl | omega), rfl⟩

set_option maxRecDepth 100000 in
set_option maxHeartbeats 2000000 in
theorem ceil_any (n d : Int) (h0 : 0 ≤ n) (h1 : n ≤ 1000000000) (h2 : 0 < d) (h3 : d ≤ 1000000) (w : World) :
    Calls Try.prog 122 #[.int .i64 n, .int .i64 d] w fun e w' => e = .returned (.int .i64 (upD n d)) ∧ w' = w := by
  have hd : d ≠ 0 := by omega
  have hq := upD_le (n := n) (d := d) (q := n) h0 h2 (by rw [show n * d = n + n * (d - 1) by rw [Int.mul_sub]; omega]; have := Int.mul_nonneg h0 (show (0 : Int) ≤ d - 1 by omega); omega)
  unfold upD at *
  go_enter Try.func122, Try.ntmps122
  go_wp2_with fail
  go_ret
  exact ⟨ret_int (by first | rfl | omega), rfl⟩

set_option maxRecDepth 100000 in
set_option maxHeartbeats 2000000 in
theorem l03Load_any (A : Option Addr) (n c lo hi : Nat) (l : Chr) (r : Int) (hn : n ≤ 1048576) (h0 : 0 ≤ r) (h1 : r ≤ 1000000) (hch : chB l = true) (w : World) (hl : l.length = n) (h : Rd w lo hi 2 A n (rChartStep l)) (hhi : hi ≤ w.heap.size) :
    Calls Try.prog 102 #[.slice A n c, .int .i64 r] w fun e w' => e = .returned (.int .i64 (ldI l r)) ∧ Below w.heap.size w w' := by
  have H1 := hide hl
  have H2 := hide h
  have HHI := hide hhi
  have HNEG := hide (ldI_neg hch r)
  have HF := hide (fIx_cases l r)
  clear hl h
  rcases HF.out with e | ⟨i, hil, e, g1, g2⟩
  · have E := hide (ldI_no e)
    go_enter Try.func102, Try.ntmps102
    go_wp2_with fail
    refine (l03Find_any _ n c lo hi l r hn _ H1.out H2.out HHI.out).mono ?_
    rintro e w1 ⟨rfl, hw⟩
    obtain rfl := hw
    rw [e]
    go_wp2_with fail
    go_ret
    exact ⟨ret_int E.out.symm, Below.refl _ _⟩
  · have hin : i < n := by rw [← H1.out]; exact hil
    obtain ⟨b, off, hA, hb1', hb2', hc⟩ := H2.out.2 (by omega)
    subst hA
    rcases Nat.eq_zero_or_pos i with rfl | hp
    · skip
      obtain ⟨t0, t1⟩ := rChartStep_at l 0 hil
      have e' : fIx l r = 0 := by simpa using e
      obtain ⟨z0, z1⟩ := chB_zero hch hil
      have E := hide (ldI_0 e' hil)
      have c1 : w.cell? ⟨b, off + 0 * 2 + 1, none⟩ = some (.int .i64 l[0].2) := hc _ _ t1
      simp only [Nat.zero_mul, Nat.add_zero] at c1
      clear t0 t1 hc g1 g2 e hch
      generalize l[0].2 = z at *
      have x0 : (0 : Int) < (n : Int) := by omega
      go_enter Try.func102, Try.ntmps102
      go_wp2_with fail
      refine (l03Find_any _ n c lo hi l r hn _ H1.out H2.out HHI.out).mono ?_
      rintro e w1 ⟨rfl, hw⟩
      obtain rfl := hw
      rw [e']
      go_wp2_with fail
      go_ret
      exact ⟨ret_int E.out.symm, Below.refl _ _⟩
    · skip
      obtain ⟨k, rfl⟩ : ∃ k, i = k + 1 := ⟨i - 1, by omega⟩
      have e' : fIx l r = (k : Int) + 1 := by rw [e]; omega
      have q := chB_step hch hil
      have hk : k < l.length := Nat.lt_of_succ_lt hil
      have g3 : l[k].1 < r := g2 k hk (Nat.lt_succ_self k)
      have E := hide (ldI_s e' hil)
      obtain ⟨v1, v2⟩ := ldP_bd (a := l[k]) (b := l[k + 1]) (r := r) (by omega) (by omega) (by omega) (by omega) g1
      obtain ⟨t0, t1⟩ := rChartStep_at l k hk
      obtain ⟨s0, s1⟩ := rChartStep_at l (k + 1) hil
      have c0 : w.cell? ⟨b, off + k * 2, none⟩ = some (.int .i64 l[k].1) := hc _ _ t0
      have c1 : w.cell? ⟨b, off + k * 2 + 1, none⟩ = some (.int .i64 l[k].2) := hc _ _ t1
      have d0 : w.cell? ⟨b, off + (k + 1) * 2, none⟩ = some (.int .i64 l[k + 1].1) := hc _ _ s0
      have d1 : w.cell? ⟨b, off + (k + 1) * 2 + 1, none⟩ = some (.int .i64 l[k + 1].2) := hc _ _ s1
      clear t0 t1 s0 s1 hc g2 e hch HNEG
      unfold ldP at E v1 v2
      generalize l[k + 1].1 = b1 at *
      generalize l[k + 1].2 = b2 at *
      generalize l[k].1 = a1 at *
      generalize l[k].2 = a2 at *
      obtain ⟨p1, p2⟩ := mul_bd (a := a2 - b2) (b := r - a1) (p := 50000) (q := 1000) (by omega) (by omega) (by omega) (by omega)
      have y0 : (0 : Int) ≤ (k : Int) := by omega
      have y1 : (k : Int) < (n : Int) := by omega
      have y4 : (k : Int) + 1 < (n : Int) := by omega
      have y2 : IntKind.i64.wrap ((k : Int) + 1 - 1) = (k : Int) := by rw [Int.add_sub_cancel]; exact IntWalk.i64_in _ ⟨by omega, by omega⟩
      have y3 : IntKind.i64.wrap (k : Int) = (k : Int) := IntWalk.i64_in _ ⟨by omega, by omega⟩
      have Y := hide (And.intro y2 y3)
      clear y2 y3
      go_enter Try.func102, Try.ntmps102
      go_wp2_with fail
      refine (l03Find_any _ n c lo hi l r hn _ H1.out H2.out HHI.out).mono ?_
      rintro e w1 ⟨rfl, hw⟩
      obtain rfl := hw
      rw [e']
      go_wp2_with fail
      go_quiet ((go_at_call 120; exact Calls.quiet_of_same (l03Up_any ((a2 - b2) * (r - a1)) (b1 - a1) p1 (by omega) (by omega) (by omega) _)))
      go_wp2_with fail
      go_ret
      exact ⟨ret_int E.out.symm, Joins.below_draws _ _ _⟩

set_option maxRecDepth 100000 in
set_option maxHeartbeats 2000000 in
theorem loadAt_any (A : Option Addr) (n c lo hi : Nat) (l : Chr) (r : Int) (hn : n ≤ 1048576) (h0 : 0 ≤ r) (h1 : r ≤ 1000000) (hch : chB l = true) (w : World) (hl : l.length = n) (h : Rd w lo hi 2 A n (rChartStep l)) (hhi : hi ≤ w.heap.size) :
    Calls Try.prog 103 #[.slice A n c, .int .i64 r] w fun e w' => e = .returned (.tuple #[.int .i64 (ldV (ldI l r)), .bool (ldK (ldI l r))]) ∧ Below w.heap.size w w' := by
  have H1 := hide hl
  have H2 := hide h
  have HHI := hide hhi
  have HNEG := hide (ldI_neg hch r)
  have HF := hide (fIx_cases l r)
  clear hl h
  rcases HF.out with e | ⟨i, hil, e, g1, g2⟩
  · have E := hide (ldI_no e)
    go_enter Try.func103, Try.ntmps103
    go_wp2_with fail
    refine (stepFor_any _ n c lo hi l r hn _ H1.out H2.out HHI.out).mono ?_
    rintro e w1 ⟨rfl, hb1⟩
    have hs1 := hb1.size
    rw [e]
    go_wp2_with fail
    go_ret2
    exact ⟨ret_ld (by rw [E.out]; rfl) (by rw [E.out]; rfl), hb1⟩
  · have hin : i < n := by rw [← H1.out]; exact hil
    obtain ⟨b, off, hA, hb1', hb2', hc⟩ := H2.out.2 (by omega)
    subst hA
    rcases Nat.eq_zero_or_pos i with rfl | hp
    · skip
      obtain ⟨t0, t1⟩ := rChartStep_at l 0 hil
      have e' : fIx l r = 0 := by simpa using e
      obtain ⟨z0, z1⟩ := chB_zero hch hil
      have E := hide (ldI_0 e' hil)
      have c1 : w.cell? ⟨b, off + 0 * 2 + 1, none⟩ = some (.int .i64 l[0].2) := hc _ _ t1
      simp only [Nat.zero_mul, Nat.add_zero] at c1
      clear t0 t1 hc g1 g2 e hch
      generalize l[0].2 = z at *
      have x0 : (0 : Int) < (n : Int) := by omega
      go_enter Try.func103, Try.ntmps103
      go_wp2_with fail
      refine (stepFor_any _ n c lo hi l r hn _ H1.out H2.out HHI.out).mono ?_
      rintro e w1 ⟨rfl, hb1⟩
      have hs1 := hb1.size
      rw [e']
      replace c1 := (hb1.cell (p := ⟨b, _, none⟩) (by show b < _; have := HHI.out; omega)).trans c1
      go_wp2_with fail
      go_ret2
      exact ⟨ret_ld (by rw [E.out, ldV_in (by omega)]) (by rw [E.out, ldK_in (by omega)]), hb1⟩
    · skip
      obtain ⟨k, rfl⟩ : ∃ k, i = k + 1 := ⟨i - 1, by omega⟩
      have e' : fIx l r = (k : Int) + 1 := by rw [e]; omega
      have q := chB_step hch hil
      have hk : k < l.length := Nat.lt_of_succ_lt hil
      have g3 : l[k].1 < r := g2 k hk (Nat.lt_succ_self k)
      have E := hide (ldI_s e' hil)
      obtain ⟨v1, v2⟩ := ldP_bd (a := l[k]) (b := l[k + 1]) (r := r) (by omega) (by omega) (by omega) (by omega) g1
      obtain ⟨t0, t1⟩ := rChartStep_at l k hk
      obtain ⟨s0, s1⟩ := rChartStep_at l (k + 1) hil
      have c0 : w.cell? ⟨b, off + k * 2, none⟩ = some (.int .i64 l[k].1) := hc _ _ t0
      have c1 : w.cell? ⟨b, off + k * 2 + 1, none⟩ = some (.int .i64 l[k].2) := hc _ _ t1
      have d0 : w.cell? ⟨b, off + (k + 1) * 2, none⟩ = some (.int .i64 l[k + 1].1) := hc _ _ s0
      have d1 : w.cell? ⟨b, off + (k + 1) * 2 + 1, none⟩ = some (.int .i64 l[k + 1].2) := hc _ _ s1
      clear t0 t1 s0 s1 hc g2 e hch HNEG
      unfold ldP at E v1 v2
      generalize l[k + 1].1 = b1 at *
      generalize l[k + 1].2 = b2 at *
      generalize l[k].1 = a1 at *
      generalize l[k].2 = a2 at *
      obtain ⟨p1, p2⟩ := mul_bd (a := a2 - b2) (b := r - a1) (p := 50000) (q := 1000) (by omega) (by omega) (by omega) (by omega)
      have y0 : (0 : Int) ≤ (k : Int) := by omega
      have y1 : (k : Int) < (n : Int) := by omega
      have y4 : (k : Int) + 1 < (n : Int) := by omega
      have y2 : IntKind.i64.wrap ((k : Int) + 1 - 1) = (k : Int) := by rw [Int.add_sub_cancel]; exact IntWalk.i64_in _ ⟨by omega, by omega⟩
      have y3 : IntKind.i64.wrap (k : Int) = (k : Int) := IntWalk.i64_in _ ⟨by omega, by omega⟩
      have Y := hide (And.intro y2 y3)
      clear y2 y3
      go_enter Try.func103, Try.ntmps103
      go_wp2_with fail
      refine (stepFor_any _ n c lo hi l r hn _ H1.out H2.out HHI.out).mono ?_
      rintro e w1 ⟨rfl, hb1⟩
      have hs1 := hb1.size
      rw [e']
      have K : ∀ q, w1.cell? ⟨b, q, none⟩ = w.cell? ⟨b, q, none⟩ := fun q => hb1.cell (p := ⟨b, q, none⟩) (by show b < _; have := HHI.out; omega)
      rw [← K] at c0
      rw [← K] at c1
      rw [← K] at d0
      rw [← K] at d1
      clear K
      have hb2w : b < w1.heap.size := by have := HHI.out; omega
      go_upto_region 6 with fail
      go_cut [7, 8] (fun s7 s8 wx => ∃ g7 g8 : Nat, s7 = .pointer (some ⟨g7, 0, none⟩) ∧ s8 = .pointer (some ⟨g8, 0, none⟩) ∧ g7 < wx.heap.size ∧ g8 < wx.heap.size ∧ wx.cell? ⟨g7, 0, none⟩ = some (.int .i64 a1) ∧ wx.cell? ⟨g7, 1, none⟩ = some (.int .i64 a2) ∧ wx.cell? ⟨g8, 0, none⟩ = some (.int .i64 b1) ∧ wx.cell? ⟨g8, 1, none⟩ = some (.int .i64 b2) ∧ Below w1.heap.size w1 wx)
      case first =>
        go_region
        all_goals go_wp2_with fail
        all_goals go_meet
        · obtain ⟨t1, t2, t3, t4, t5, t6, t7⟩ := (two_new w1 (.int .i64 a1) (.int .i64 a2) (.int .i64 b1) (.int .i64 b2) 137)
          exact ⟨_, _, rfl, rfl, t6, t7, t1, t2, t3, t4, t5⟩
        · obtain ⟨t1, t2, t3, t4, t5, t6, t7⟩ := (two_new w1 (.int .i64 b1) (.int .i64 b2) (.int .i64 a1) (.int .i64 a2) 137)
          exact ⟨_, _, rfl, rfl, t7, t6, t3, t4, t1, t2, t5⟩
      case rest =>
        obtain ⟨g7, g8, rfl, rfl, hg7, hg8, q1, q2, q3, q4, hbx⟩ := hcut
        go_wp2_with fail
        go_quiet ((go_at_call 122; exact Calls.quiet_of_same (ceil_any ((a2 - b2) * (r - a1)) (b1 - a1) p1 (by omega) (by omega) (by omega) _)))
        go_wp2_with fail
        go_ret2
        exact ⟨ret_ld (by rw [E.out, ldV_in (by omega)]) (by rw [E.out, ldK_in (by omega)]), hb1.trans ((hbx.mono hs1).trans (Joins.below_draws _ _ _))⟩

end Go.Proofs.Ytmpccakgpahpoaa
