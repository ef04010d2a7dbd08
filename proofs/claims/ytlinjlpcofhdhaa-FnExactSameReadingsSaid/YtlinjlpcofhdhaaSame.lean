/-
  SameReadings: are two lists of readings the same? No condition but those that each theorem names.
-/
import Derived.Test.YtlinjlpcofhdhaaFamReading
import Derived.Test.YtlinjlpcofhdhaaNum
namespace Go.Proofs.Ytlinjlpcofhdhaa
open Go.RowKit
set_option linter.unusedVariables false

theorem list_ne {α : Type} {l l' : List α} {k : Nat} (h : k < l.length) (h' : k < l'.length) (he : l[k] ≠ l'[k]) : l ≠ l' := by
  rintro rfl; exact he rfl
theorem list_eq {α : Type} {l l' : List α} (hl : l.length = l'.length) (h : ∀ j (a : j < l.length) (b : j < l'.length), l[j] = l'[j]) : l = l' := List.ext_getElem hl fun i a b => h i a b
def eqTo (l l' : List (Int × Int)) (k : Nat) : Prop := ∀ j (a : j < l.length) (b : j < l'.length), j < k → l[j] = l'[j]
theorem eqTo_succ {l l' : List (Int × Int)} {k : Nat} (a : k < l.length) (b : k < l'.length) (h : eqTo l l' k) (he : l[k] = l'[k]) : eqTo l l' (k + 1) := by
  intro j h1 h2 h3
  rcases Nat.lt_or_ge j k with h4 | h4
  · exact h j h1 h2 h4
  · obtain rfl : j = k := by omega
    exact he

set_option maxHeartbeats 2000000 in
theorem slEqualReading_any (A A' : Option Addr) (n n' c c' lo hi lo' hi' : Nat) (l l' : List (Int × Int)) (hn : n ≤ 1048576) (hn' : n' ≤ 1048576) (w : World) (hl : l.length = n) (hl' : l'.length = n') (h : Rd w lo hi 2 A n (rReading l)) (h' : Rd w lo' hi' 2 A' n' (rReading l')) (hhi : hi ≤ w.heap.size) (hhi' : hi' ≤ w.heap.size) :
    Calls Try.prog 58 #[.slice A n c, .slice A' n' c'] w fun e w' => e = .returned (.bool (decide (l = l'))) ∧ Below w.heap.size w w' := by
  by_cases hnn : n = n'
  · subst hnn
    have H1 := hide hl
    have H1' := hide hl'
    have H2 := hide h
    have H3 := hide h'
    clear hl hl' h h' hn'
    go_enter Try.func58, Try.ntmps58
    go_wp2
    go_loopw [13] (fun i wr => ∃ k : Nat, k ≤ n ∧ i = .int .i64 k ∧ Hid (eqTo l l' k) ∧ Below w.heap.size w wr) (fun i _ => n - (intOf i).toNat)
    case atStart => exact ⟨0, by omega, rfl, fun j _ _ h => absurd h (by omega), Below.refl _ _⟩
    case round =>
      obtain ⟨k, hk, rfl, heq, hbr⟩ := hrel
      by_cases hlt : k < n
      · have hlen : k < l.length := by rw [H1.out]; exact hlt
        have hlen' : k < l'.length := by rw [H1'.out]; exact hlt
        obtain ⟨t0, t1⟩ := rReading_at l k hlen
        obtain ⟨s0, s1⟩ := rReading_at l' k hlen'
        obtain ⟨b, off, rfl, hb1', hb2', hc⟩ := H2.out.2 (by omega)
        obtain ⟨b', off', rfl, hb1'', hb2'', hc'⟩ := H3.out.2 (by omega)
        have c0 : wr.cell? ⟨b, off + k * 2, none⟩ = some (.int .i64 l[k].1) := (hbr.cell (p := ⟨b, _, none⟩) (by show b < _; omega)).trans (hc _ _ t0)
        have c1 : wr.cell? ⟨b, off + k * 2 + 1, none⟩ = some (.int .i64 l[k].2) := (hbr.cell (p := ⟨b, _, none⟩) (by show b < _; omega)).trans (hc _ _ t1)
        have d0 : wr.cell? ⟨b', off' + k * 2, none⟩ = some (.int .i64 l'[k].1) := (hbr.cell (p := ⟨b', _, none⟩) (by show b' < _; omega)).trans (hc' _ _ s0)
        have d1 : wr.cell? ⟨b', off' + k * 2 + 1, none⟩ = some (.int .i64 l'[k].2) := (hbr.cell (p := ⟨b', _, none⟩) (by show b' < _; omega)).trans (hc' _ _ s1)
        clear t0 t1 s0 s1 hc hc'
        by_cases e : l[k] = l'[k]
        · have E := hide (eqTo_succ hlen hlen' heq.out e)
          rw [← e] at d0 d1
          generalize l[k].1 = p at *
          generalize l[k].2 = q at *
          clear e heq
          go_wp2_with fail
          go_quiet (fail)
          go_wp2_with fail
          go_roundw
          case rel => exact ⟨k + 1, by omega, by go_num, E.out, hbr.trans (Joins.below_draws _ _ _)⟩
          case measure => simp [intOf]; omega
        · have E : Hid (decide (l = l') = false) := decide_eq_false (list_ne hlen hlen' e)
          clear heq
          by_cases e1 : l[k].1 = l'[k].1
          · have e2 : (l[k].2 == l'[k].2) = false := by
              rw [beq_eq_false_iff_ne]
              intro e2
              exact e (Prod.ext e1 e2)
            rw [← e1] at d0
            clear e e1
            generalize l[k].1 = p at *
            generalize l[k].2 = q at *
            generalize l'[k].2 = q' at *
            go_wp2_with fail
            go_quiet (fail)
            go_wp2_with fail
            go_ret
            exact ⟨ret_bool E.out.symm, hbr.trans (Joins.below_draws _ _ _)⟩
          · have e2 : (l[k].1 == l'[k].1) = false := by rw [beq_eq_false_iff_ne]; exact e1
            clear e e1
            generalize l[k].1 = p at *
            generalize l[k].2 = q at *
            generalize l'[k].1 = p' at *
            generalize l'[k].2 = q' at *
            go_wp2_with fail
            go_quiet (fail)
            go_wp2_with fail
            go_ret
            exact ⟨ret_bool E.out.symm, hbr.trans (Joins.below_draws _ _ _)⟩
      · obtain rfl : k = n := by omega
        have E : Hid (decide (l = l') = true) := decide_eq_true (list_eq (H1.out.trans H1'.out.symm) fun j a b => heq.out j a b (by have := H1.out; omega))
        clear heq
        go_wp2
        go_ret
        exact ⟨ret_bool E.out.symm, hbr⟩
  · have E : Hid (decide (l = l') = false) := decide_eq_false (by rintro rfl; exact hnn (hl.symm.trans hl'))
    have hd : ((n : Int) != (n' : Int)) = true := by rw [bne_iff_ne]; omega
    clear hnn hl hl' h h'
    go_enter Try.func58, Try.ntmps58
    go_wp2
    go_ret
    exact ⟨ret_bool E.out.symm, Below.refl _ _⟩

set_option maxHeartbeats 2000000 in
theorem specSameReadings_any (A A' : Option Addr) (n n' c c' lo hi lo' hi' : Nat) (l l' : List (Int × Int)) (hn : n ≤ 1048576) (hn' : n' ≤ 1048576) (w : World) (hl : l.length = n) (hl' : l'.length = n') (h : Rd w lo hi 2 A n (rReading l)) (h' : Rd w lo' hi' 2 A' n' (rReading l')) (hhi : hi ≤ w.heap.size) (hhi' : hi' ≤ w.heap.size) :
    Calls Try.prog 21 #[.slice A n c, .slice A' n' c'] w fun e w' => e = .returned (.bool (decide (l = l'))) ∧ Below w.heap.size w w' := by
  by_cases hnn : n = n'
  · subst hnn
    have H1 := hide hl
    have H1' := hide hl'
    have H2 := hide h
    have H3 := hide h'
    clear hl hl' h h' hn'
    go_enter Try.func21, Try.ntmps21
    go_wp2
    go_loopw [5] (fun i wr => ∃ k : Nat, k ≤ n ∧ i = .int .i64 k ∧ Hid (eqTo l l' k) ∧ Below w.heap.size w wr) (fun i _ => n - (intOf i).toNat)
    case atStart => exact ⟨0, by omega, rfl, fun j _ _ h => absurd h (by omega), Below.refl _ _⟩
    case round =>
      obtain ⟨k, hk, rfl, heq, hbr⟩ := hrel
      by_cases hlt : k < n
      · have hlen : k < l.length := by rw [H1.out]; exact hlt
        have hlen' : k < l'.length := by rw [H1'.out]; exact hlt
        obtain ⟨t0, t1⟩ := rReading_at l k hlen
        obtain ⟨s0, s1⟩ := rReading_at l' k hlen'
        obtain ⟨b, off, rfl, hb1', hb2', hc⟩ := H2.out.2 (by omega)
        obtain ⟨b', off', rfl, hb1'', hb2'', hc'⟩ := H3.out.2 (by omega)
        have c0 : wr.cell? ⟨b, off + k * 2, none⟩ = some (.int .i64 l[k].1) := (hbr.cell (p := ⟨b, _, none⟩) (by show b < _; omega)).trans (hc _ _ t0)
        have c1 : wr.cell? ⟨b, off + k * 2 + 1, none⟩ = some (.int .i64 l[k].2) := (hbr.cell (p := ⟨b, _, none⟩) (by show b < _; omega)).trans (hc _ _ t1)
        have d0 : wr.cell? ⟨b', off' + k * 2, none⟩ = some (.int .i64 l'[k].1) := (hbr.cell (p := ⟨b', _, none⟩) (by show b' < _; omega)).trans (hc' _ _ s0)
        have d1 : wr.cell? ⟨b', off' + k * 2 + 1, none⟩ = some (.int .i64 l'[k].2) := (hbr.cell (p := ⟨b', _, none⟩) (by show b' < _; omega)).trans (hc' _ _ s1)
        clear t0 t1 s0 s1 hc hc'
        by_cases e : l[k] = l'[k]
        · have E := hide (eqTo_succ hlen hlen' heq.out e)
          rw [← e] at d0 d1
          generalize l[k].1 = p at *
          generalize l[k].2 = q at *
          clear e heq
          go_wp2_with fail
          go_quiet (fail)
          go_wp2_with fail
          go_roundw
          case rel => exact ⟨k + 1, by omega, by go_num, E.out, hbr.trans (Joins.below_draws _ _ _)⟩
          case measure => simp [intOf]; omega
        · have E : Hid (decide (l = l') = false) := decide_eq_false (list_ne hlen hlen' e)
          clear heq
          by_cases e1 : l[k].1 = l'[k].1
          · have e2 : (l[k].2 == l'[k].2) = false := by
              rw [beq_eq_false_iff_ne]
              intro e2
              exact e (Prod.ext e1 e2)
            rw [← e1] at d0
            clear e e1
            generalize l[k].1 = p at *
            generalize l[k].2 = q at *
            generalize l'[k].2 = q' at *
            go_wp2_with fail
            go_quiet (fail)
            go_wp2_with fail
            go_ret
            exact ⟨ret_bool E.out.symm, hbr.trans (Joins.below_draws _ _ _)⟩
          · have e2 : (l[k].1 == l'[k].1) = false := by rw [beq_eq_false_iff_ne]; exact e1
            clear e e1
            generalize l[k].1 = p at *
            generalize l[k].2 = q at *
            generalize l'[k].1 = p' at *
            generalize l'[k].2 = q' at *
            go_wp2_with fail
            go_quiet (fail)
            go_wp2_with fail
            go_ret
            exact ⟨ret_bool E.out.symm, hbr.trans (Joins.below_draws _ _ _)⟩
      · obtain rfl : k = n := by omega
        have E : Hid (decide (l = l') = true) := decide_eq_true (list_eq (H1.out.trans H1'.out.symm) fun j a b => heq.out j a b (by have := H1.out; omega))
        clear heq
        go_wp2
        go_ret
        exact ⟨ret_bool E.out.symm, hbr⟩
  · have E : Hid (decide (l = l') = false) := decide_eq_false (by rintro rfl; exact hnn (hl.symm.trans hl'))
    have hd : ((n : Int) != (n' : Int)) = true := by rw [bne_iff_ne]; omega
    clear hnn hl hl' h h'
    go_enter Try.func21, Try.ntmps21
    go_wp2
    go_ret
    exact ⟨ret_bool E.out.symm, Below.refl _ _⟩

set_option maxHeartbeats 400000 in
theorem implSameReadings_any (A A' : Option Addr) (n n' c c' lo hi lo' hi' : Nat) (l l' : List (Int × Int)) (hn : n ≤ 1048576) (hn' : n' ≤ 1048576) (w : World) (hl : l.length = n) (hl' : l'.length = n') (h : Rd w lo hi 2 A n (rReading l)) (h' : Rd w lo' hi' 2 A' n' (rReading l')) (hhi : hi ≤ w.heap.size) (hhi' : hi' ≤ w.heap.size) :
    Calls Try.prog 22 #[.slice A n c, .slice A' n' c'] w fun e w' => e = .returned (.bool (decide (l = l'))) ∧ Below w.heap.size w w' := by
  go_enter Try.func22, Try.ntmps22
  go_wp2_with fail
  refine (slEqualReading_any A A' n n' c c' lo hi lo' hi' l l' hn hn' _ hl hl' h h' hhi hhi').mono ?_
  rintro e w1 ⟨rfl, hb1⟩
  go_wp2_with fail
  go_ret
  exact ⟨rfl, hb1⟩

end Go.Proofs.Ytlinjlpcofhdhaa
