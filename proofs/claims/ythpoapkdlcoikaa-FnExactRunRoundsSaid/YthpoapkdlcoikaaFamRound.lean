/-
  CONTRACTS of the laws' helpers on a slice of rounds: copying, comparing, marking. No condition but those that each theorem names.
-/
import Derived.Test.YthpoapkdlcoikaaMem
namespace Go.Proofs.Ythpoapkdlcoikaa
open Go.RowKit
set_option linter.unusedVariables false

/-- The cells of one element, and of a list of elements. -/
def cRound (p : Bool × Bool) : List Value := [.bool p.1, .bool p.2]
def rRound (l : List (Bool × Bool)) : List Value := rows cRound l
theorem rRound_length (l : List (Bool × Bool)) : (rRound l).length = l.length * 2 := rows_length (f := cRound) (fun _ => rfl) l
theorem rRound_at (l : List (Bool × Bool)) (k : Nat) (h : k < l.length) : (rRound l)[k * 2]? = some (.bool l[k].1) ∧ (rRound l)[k * 2 + 1]? = some (.bool l[k].2) := by
  have h0 := fun j (hj : j < 2) => rows_at (f := cRound) (m := 2) (fun _ => rfl) l k h j hj
  exact ⟨h0 0 (by omega), h0 1 (by omega)⟩
theorem infoRound : (Try.prog.info? 56).map (fun i => (i.zero, i.size, i.bytes)) = some (some (.agg #[.bool false, .bool false]), 2, 2) := by kernel_rfl

set_option maxRecDepth 100000 in
set_option maxHeartbeats 400000 in
theorem szRoundS_ok (A : Option Addr) (n c : Nat) (q : Int) (hq : (n : Int) ≤ q) (hq2 : q ≤ 1048576) (w : World) :
    Calls Try.prog 46 #[.slice A n c, .int .i64 q] w fun e w' => e = .returned (.int .i64 (q - n)) ∧ w = w' := by
  go_enter Try.func46, Try.ntmps46
  go_wp2
  go_ret
  exact ⟨rfl, rfl⟩

set_option maxRecDepth 100000 in
set_option maxHeartbeats 400000 in
theorem szRoundS_big (A : Option Addr) (n c : Nat) (q : Int) (hq : q < (n : Int)) (hq0 : 0 ≤ q) (hq2 : q ≤ 1048576) (hm : n ≤ maxLen) (w : World) :
    Calls Try.prog 46 #[.slice A n c, .int .i64 q] w fun e w' => e = .returned (.int .i64 (-1)) ∧ w = w' := by
  unfold maxLen at hm
  go_enter Try.func46, Try.ntmps46
  go_wp2
  go_ret
  exact ⟨rfl, rfl⟩

set_option maxRecDepth 100000 in
set_option maxHeartbeats 400000 in
theorem toRound_any (x0 : Bool) (x1 : Bool) (w : World) :
    Calls Try.prog 36 #[.agg #[.bool x0, .bool x1]] w fun e w' => e = .returned (.agg #[.bool x0, .bool x1]) ∧ Below w.heap.size w w' := by
  go_enter Try.func36, Try.ntmps36
  go_wp2
  refine bodyPost_ret (v := .agg #[.bool x0, .bool x1]) (by simp [results, Try.results36, go_sem]) rfl ⟨rfl, ?_⟩
  repeat (first | exact Below.refl _ _ | refine Below.drew ?_ | refine Below.alloc ?_ (by first | omega | (simp; done) | (simp; omega) | (simp at *; omega)) _ | refine Below.setCell ?_ (by first | omega | (simp; done) | (simp; omega) | (simp at *; omega)) _ | refine Below.trans ?_ (Below.mono (by assumption) (by first | omega | (simp; done) | (simp; omega) | (simp at *; omega))))

set_option maxRecDepth 100000 in
set_option maxHeartbeats 1000000 in
theorem toRoundS_any (A : Option Addr) (n c lo hi : Nat) (l : List (Bool × Bool)) (hn : n ≤ 1048576) (w : World) (hl : l.length = n) (h : Rd w lo hi 2 A n (rRound l)) (hhi : hi ≤ w.heap.size) :
    Calls Try.prog 48 #[.slice A n c] w fun e w' => ∃ v, e = .returned v ∧ Own w' w.heap.size w'.heap.size 56 2 v n (rRound l) ∧ Below w.heap.size w w' := by
  obtain ⟨i0, hi0, hz0, hz1, hz2⟩ := info_parts infoRound
  go_enter Try.func48, Try.ntmps48
  go_wp2_with (at_make; refine wpList_make_full _ rfl (.tmp 6) (.tmp 6) 67 rfl w.heap.size 56 i0 (.agg #[.bool false, .bool false]) 2 Try.underlying67 hi0 hz0 hz1 .i64 .i64 _ _ n rfl rfl rfl rfl (by rw [hz2]; omega) (by unfold maxLen; omega) (Nat.le_refl _) ?_; intro w1 hown hg)
  clear hi0 hz0 hz1 hz2
  have H1 := hide hl
  have H2 := hide h
  clear hl h
  have hb1 : Below w.heap.size w w1 := (Below.refl _ _).grown hg (Nat.le_refl _) (by simp)
  have hzl : (madeCells (Value.cells (.agg #[.bool false, .bool false])) (n * 2)).toList.length = (rRound l).length := by rw [hown.1, rRound_length, H1.out]
  generalize (madeCells (Value.cells (.agg #[.bool false, .bool false])) (n * 2)).toList = zs at *
  have Hz := hide hzl
  clear hzl
  go_loopw [4] (fun i wr => ∃ k : Nat, k ≤ n ∧ i = .int .i64 k ∧ wr.ownsRow w.heap.size 56 2 (.slice (some ⟨w.heap.size, 0, none⟩) n n) n (fill (rRound l) zs (k * 2)) ∧ Below w.heap.size w wr) (fun i _ => n - (intOf i).toNat)
  case atStart =>
    exact ⟨0, by omega, rfl, by rw [Nat.zero_mul, fill_zero]; exact hown, hb1⟩
  case round =>
    obtain ⟨k, hk, rfl, ho, hbr⟩ := hrel
    by_cases hlt : k < n
    · have hlen : k < l.length := by rw [H1.out]; exact hlt
      obtain ⟨t0, t1⟩ := rRound_at l k hlen
      obtain ⟨b, off, rfl, hb1', hb2', hc⟩ := H2.out.2 (by omega)
      have c0 : wr.cell? ⟨b, off + k * 2, none⟩ = some (.bool l[k].1) := (hbr.cell (p := ⟨b, _, none⟩) (by show b < _; omega)).trans (hc _ _ t0)
      have c1 : wr.cell? ⟨b, off + k * 2 + 1, none⟩ = some (.bool l[k].2) := (hbr.cell (p := ⟨b, _, none⟩) (by show b < _; omega)).trans (hc _ _ t1)
      generalize l[k].1 = x0 at *
      generalize l[k].2 = x1 at *
      have T0 := hide t0
      clear t0
      have T1 := hide t1
      clear t1
      clear hc
      go_wp2_with fail
      refine (toRound_any _ _ _).mono ?_
      rintro e w2 ⟨rfl, hb2⟩
      have ho2 := owns_below ho hb2
      obtain ⟨u0, hu0⟩ := fill_get1 (m := k * 2) (j := k * 2) Hz.out (by omega) (by rw [rRound_length]; omega)
      obtain ⟨u1, hu1⟩ := fill_get1 (m := k * 2) (j := k * 2 + 1) Hz.out (by omega) (by rw [rRound_length]; omega)
      have d0 : w2.cell? ⟨w.heap.size, k * 2, none⟩ = some u0 := (ho2.cellAt _ (by omega)).trans (by simpa using hu0)
      have f0 := ho2.frozenAt (k * 2)
      have d1 : w2.cell? ⟨w.heap.size, k * 2 + 1, none⟩ = some u1 := (ho2.cellAt _ (by omega)).trans (by simpa using hu1)
      have f1 := ho2.frozenAt (k * 2 + 1)
      clear hu0 hu1
      go_wp2_with fail
      go_roundw
      case rel =>
        refine ⟨k + 1, by omega, by go_num, ?_, (((hbr.trans (hb2.mono hbr.size)).setCell (Nat.le_refl _) _).setCell (Nat.le_refl _) _)⟩
        have s := ((ho2.stored (k * 2) (.bool x0)).1.stored (k * 2 + 1) (.bool x1)).1
        rw [fill_set Hz.out T0.out, fill_set Hz.out T1.out] at s
        rw [show (k + 1) * 2 = k * 2 + 1 + 1 by omega]
        first | exact s | simpa using s
      case measure => simp [intOf]; omega
    · obtain rfl : k = n := by omega
      go_wp2
      go_ret
      refine ⟨_, rfl, Own.of_owns ?_, hbr⟩
      rw [fill_all Hz.out (by rw [rRound_length, H1.out])] at ho
      exact ho

set_option maxRecDepth 100000 in
set_option maxHeartbeats 400000 in
theorem eqRound_same (x0 : Bool) (x1 : Bool) (w : World) :
    Calls Try.prog 85 #[.agg #[.bool x0, .bool x1], .agg #[.bool x0, .bool x1]] w fun e w' => e = .returned (.bool true) ∧ Below w.heap.size w w' := by
  go_enter Try.func85, Try.ntmps85
  go_wp2
  go_ret
  refine ⟨rfl, ?_⟩
  repeat (first | exact Below.refl _ _ | refine Below.drew ?_ | refine Below.alloc ?_ (by first | omega | (simp; done) | (simp; omega) | (simp at *; omega)) _ | refine Below.setCell ?_ (by first | omega | (simp; done) | (simp; omega) | (simp at *; omega)) _ | refine Below.trans ?_ (Below.mono (by assumption) (by first | omega | (simp; done) | (simp; omega) | (simp at *; omega))))

set_option maxRecDepth 100000 in
set_option maxHeartbeats 1000000 in
theorem eqRoundS_same (A A' : Option Addr) (n c c' lo hi lo' hi' : Nat) (l : List (Bool × Bool)) (hn : n ≤ 1048576) (w : World) (hl : l.length = n) (h : Rd w lo hi 2 A n (rRound l)) (h' : Rd w lo' hi' 2 A' n (rRound l)) (hhi : hi ≤ w.heap.size) (hhi' : hi' ≤ w.heap.size) :
    Calls Try.prog 50 #[.slice A n c, .slice A' n c'] w fun e w' => e = .returned (.bool true) ∧ Below w.heap.size w w' := by
  have H1 := hide hl
  have H2 := hide h
  have H3 := hide h'
  clear hl h h'
  go_enter Try.func50, Try.ntmps50
  go_wp2
  go_loopw [5] (fun i wr => ∃ k : Nat, k ≤ n ∧ i = .int .i64 k ∧ Below w.heap.size w wr) (fun i _ => n - (intOf i).toNat)
  case atStart => exact ⟨0, by omega, rfl, Below.refl _ _⟩
  case round =>
    obtain ⟨k, hk, rfl, hbr⟩ := hrel
    by_cases hlt : k < n
    · have hlen : k < l.length := by rw [H1.out]; exact hlt
      obtain ⟨t0, t1⟩ := rRound_at l k hlen
      obtain ⟨b, off, rfl, hb1', hb2', hc⟩ := H2.out.2 (by omega)
      obtain ⟨b', off', rfl, hb1'', hb2'', hc'⟩ := H3.out.2 (by omega)
      have c0 : wr.cell? ⟨b, off + k * 2, none⟩ = some (.bool l[k].1) := (hbr.cell (p := ⟨b, _, none⟩) (by show b < _; omega)).trans (hc _ _ t0)
      have c1 : wr.cell? ⟨b, off + k * 2 + 1, none⟩ = some (.bool l[k].2) := (hbr.cell (p := ⟨b, _, none⟩) (by show b < _; omega)).trans (hc _ _ t1)
      have d0 : wr.cell? ⟨b', off' + k * 2, none⟩ = some (.bool l[k].1) := (hbr.cell (p := ⟨b', _, none⟩) (by show b' < _; omega)).trans (hc' _ _ t0)
      have d1 : wr.cell? ⟨b', off' + k * 2 + 1, none⟩ = some (.bool l[k].2) := (hbr.cell (p := ⟨b', _, none⟩) (by show b' < _; omega)).trans (hc' _ _ t1)
      generalize l[k].1 = x0 at *
      generalize l[k].2 = x1 at *
      clear t0 t1 hc hc'
      go_wp2_with fail
      go_still_tail 8, (by kernel_rfl)
      go_wp2_with fail
      refine (eqRound_same _ _ _).mono ?_
      rintro e w2 ⟨rfl, hb2⟩
      go_wp2_with fail
      go_roundw
      case rel => exact ⟨k + 1, by omega, by go_num, hbr.drew.trans (hb2.mono hbr.size)⟩
      case measure => simp [intOf]; omega
    · obtain rfl : k = n := by omega
      go_wp2
      go_ret
      exact ⟨rfl, hbr⟩

end Go.Proofs.Ythpoapkdlcoikaa
