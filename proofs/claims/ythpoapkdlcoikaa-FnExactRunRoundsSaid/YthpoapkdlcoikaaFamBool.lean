/-
  CONTRACTS of the laws' helpers on a slice of bools: copying, comparing, marking. No condition but those that each theorem names.
-/
import Derived.Test.YthpoapkdlcoikaaMem
namespace Go.Proofs.Ythpoapkdlcoikaa
open Go.RowKit
set_option linter.unusedVariables false

/-- The cells of one element, and of a list of elements. -/
def cBool (p : Bool) : List Value := [.bool p]
def rBool (l : List (Bool)) : List Value := rows cBool l
theorem rBool_length (l : List (Bool)) : (rBool l).length = l.length * 1 := rows_length (f := cBool) (fun _ => rfl) l
theorem rBool_at (l : List (Bool)) (k : Nat) (h : k < l.length) : (rBool l)[k * 1]? = some (.bool l[k]) := by
  have h0 := fun j (hj : j < 1) => rows_at (f := cBool) (m := 1) (fun _ => rfl) l k h j hj
  exact h0 0 (by omega)
theorem infoBool : (Try.prog.info? 4).map (fun i => (i.zero, i.size, i.bytes)) = some (some (.bool false), 1, 1) := by kernel_rfl

set_option maxHeartbeats 400000 in
theorem szBoolS_ok (A : Option Addr) (n c : Nat) (q : Int) (hq : (n : Int) ≤ q) (hq2 : q ≤ 1048576) (w : World) :
    Calls Try.prog 53 #[.slice A n c, .int .i64 q] w fun e w' => e = .returned (.int .i64 (q - n)) ∧ w = w' := by
  go_enter Try.func53, Try.ntmps53
  go_wp2
  go_ret
  exact ⟨rfl, rfl⟩

set_option maxHeartbeats 400000 in
theorem szBoolS_big (A : Option Addr) (n c : Nat) (q : Int) (hq : q < (n : Int)) (hq0 : 0 ≤ q) (hq2 : q ≤ 1048576) (hm : n ≤ maxLen) (w : World) :
    Calls Try.prog 53 #[.slice A n c, .int .i64 q] w fun e w' => e = .returned (.int .i64 (-1)) ∧ w = w' := by
  unfold maxLen at hm
  go_enter Try.func53, Try.ntmps53
  go_wp2
  go_ret
  exact ⟨rfl, rfl⟩

set_option maxHeartbeats 1000000 in
theorem toBoolS_any (A : Option Addr) (n c lo hi : Nat) (l : List (Bool)) (hn : n ≤ 1048576) (w : World) (hl : l.length = n) (h : Rd w lo hi 1 A n (rBool l)) (hhi : hi ≤ w.heap.size) :
    Calls Try.prog 58 #[.slice A n c] w fun e w' => ∃ v, e = .returned v ∧ Own w' w.heap.size w'.heap.size 4 1 v n (rBool l) ∧ Below w.heap.size w w' := by
  obtain ⟨i0, hi0, hz0, hz1, hz2⟩ := info_parts infoBool
  go_enter Try.func58, Try.ntmps58
  go_wp2_with (at_make; refine wpList_make_full _ rfl (.tmp 6) (.tmp 6) 73 rfl w.heap.size 4 i0 (.bool false) 1 Try.underlying73 hi0 hz0 hz1 .i64 .i64 _ _ n rfl rfl rfl rfl (by rw [hz2]; omega) (by unfold maxLen; omega) (Nat.le_refl _) ?_; intro w1 hown hg)
  clear hi0 hz0 hz1 hz2
  have H1 := hide hl
  have H2 := hide h
  clear hl h
  have hb1 : Below w.heap.size w w1 := (Below.refl _ _).grown hg (Nat.le_refl _) (by simp)
  have hzl : (madeCells (Value.cells (.bool false)) (n * 1)).toList.length = (rBool l).length := by rw [hown.1, rBool_length, H1.out]
  generalize (madeCells (Value.cells (.bool false)) (n * 1)).toList = zs at *
  have Hz := hide hzl
  clear hzl
  go_loopw [4] (fun i wr => ∃ k : Nat, k ≤ n ∧ i = .int .i64 k ∧ wr.ownsRow w.heap.size 4 1 (.slice (some ⟨w.heap.size, 0, none⟩) n n) n (fill (rBool l) zs (k * 1)) ∧ Below w.heap.size w wr) (fun i _ => n - (intOf i).toNat)
  case atStart =>
    exact ⟨0, by omega, rfl, by rw [Nat.zero_mul, fill_zero]; exact hown, hb1⟩
  case round =>
    obtain ⟨k, hk, rfl, ho, hbr⟩ := hrel
    by_cases hlt : k < n
    · have hlen : k < l.length := by rw [H1.out]; exact hlt
      have t0 := rBool_at l k hlen
      obtain ⟨b, off, rfl, hb1', hb2', hc⟩ := H2.out.2 (by omega)
      have c0 : wr.cell? ⟨b, off + k, none⟩ = some (.bool l[k]) := (hbr.cell (p := ⟨b, _, none⟩) (by show b < _; omega)).trans (hc _ _ (by simpa using t0))
      generalize l[k] = x0 at *
      have T0 := hide t0
      clear t0
      clear hc
      have ho2 := ho
      obtain ⟨u0, hu0⟩ := fill_get1 (m := k * 1) (j := k * 1) Hz.out (by omega) (by rw [rBool_length]; omega)
      have d0 : wr.cell? ⟨w.heap.size, k, none⟩ = some u0 := (ho2.cellAt _ (by omega)).trans (by simpa using hu0)
      have f0 := ho2.frozenAt (k)
      clear hu0
      go_wp2_with fail
      go_roundw
      case rel =>
        refine ⟨k + 1, by omega, by go_num, ?_, (hbr.setCell (Nat.le_refl _) _)⟩
        have s := (ho2.stored (k * 1) (.bool x0)).1
        rw [fill_set Hz.out T0.out] at s
        rw [show (k + 1) * 1 = k * 1 + 1 by omega]
        first | exact s | simpa using s
      case measure => simp [intOf]; omega
    · obtain rfl : k = n := by omega
      go_wp2
      go_ret
      refine ⟨_, rfl, Own.of_owns ?_, hbr⟩
      rw [fill_all Hz.out (by rw [rBool_length, H1.out])] at ho
      exact ho

set_option maxHeartbeats 1000000 in
theorem eqBoolS_same (A A' : Option Addr) (n c c' lo hi lo' hi' : Nat) (l : List (Bool)) (hn : n ≤ 1048576) (w : World) (hl : l.length = n) (h : Rd w lo hi 1 A n (rBool l)) (h' : Rd w lo' hi' 1 A' n (rBool l)) (hhi : hi ≤ w.heap.size) (hhi' : hi' ≤ w.heap.size) :
    Calls Try.prog 65 #[.slice A n c, .slice A' n c'] w fun e w' => e = .returned (.bool true) ∧ Below w.heap.size w w' := by
  have H1 := hide hl
  have H2 := hide h
  have H3 := hide h'
  clear hl h h'
  go_enter Try.func65, Try.ntmps65
  go_wp2
  go_loopw [5] (fun i wr => ∃ k : Nat, k ≤ n ∧ i = .int .i64 k ∧ Below w.heap.size w wr) (fun i _ => n - (intOf i).toNat)
  case atStart => exact ⟨0, by omega, rfl, Below.refl _ _⟩
  case round =>
    obtain ⟨k, hk, rfl, hbr⟩ := hrel
    by_cases hlt : k < n
    · have hlen : k < l.length := by rw [H1.out]; exact hlt
      have t0 := rBool_at l k hlen
      obtain ⟨b, off, rfl, hb1', hb2', hc⟩ := H2.out.2 (by omega)
      obtain ⟨b', off', rfl, hb1'', hb2'', hc'⟩ := H3.out.2 (by omega)
      have c0 : wr.cell? ⟨b, off + k, none⟩ = some (.bool l[k]) := (hbr.cell (p := ⟨b, _, none⟩) (by show b < _; omega)).trans (hc _ _ (by simpa using t0))
      have d0 : wr.cell? ⟨b', off' + k, none⟩ = some (.bool l[k]) := (hbr.cell (p := ⟨b', _, none⟩) (by show b' < _; omega)).trans (hc' _ _ (by simpa using t0))
      generalize l[k] = x0 at *
      clear t0 hc hc'
      go_wp2_with fail
      go_quiet (fail)
      go_wp2_with fail
      go_roundw
      case rel => exact ⟨k + 1, by omega, by go_num, hbr.trans (Joins.below_draws _ _ _)⟩
      case measure => simp [intOf]; omega
    · obtain rfl : k = n := by omega
      go_wp2
      go_ret
      exact ⟨rfl, hbr⟩

end Go.Proofs.Ythpoapkdlcoikaa
