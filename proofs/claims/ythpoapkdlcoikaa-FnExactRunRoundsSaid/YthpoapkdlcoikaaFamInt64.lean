/-
  CONTRACTS of the laws' helpers on a slice of numbers: copying, comparing, marking. No condition but those that each theorem names.
-/
import Derived.Test.YthpoapkdlcoikaaMem
namespace Go.Proofs.Ythpoapkdlcoikaa
open Go.RowKit
set_option linter.unusedVariables false

/-- The cells of one element, and of a list of elements. -/
def cInt64 (p : Int) : List Value := [.int .i64 p]
def rInt64 (l : List (Int)) : List Value := rows cInt64 l
theorem rInt64_length (l : List (Int)) : (rInt64 l).length = l.length * 1 := rows_length (f := cInt64) (fun _ => rfl) l
theorem rInt64_at (l : List (Int)) (k : Nat) (h : k < l.length) : (rInt64 l)[k * 1]? = some (.int .i64 l[k]) := by
  have h0 := fun j (hj : j < 1) => rows_at (f := cInt64) (m := 1) (fun _ => rfl) l k h j hj
  exact h0 0 (by omega)
theorem infoInt64 : (Try.prog.info? 2).map (fun i => (i.zero, i.size, i.bytes)) = some (some (.int .i64 0), 1, 8) := by kernel_rfl

set_option maxHeartbeats 400000 in
theorem szInt64S_ok (A : Option Addr) (n c : Nat) (q : Int) (hq : (n : Int) ≤ q) (hq2 : q ≤ 1048576) (w : World) :
    Calls Try.prog 66 #[.slice A n c, .int .i64 q] w fun e w' => e = .returned (.int .i64 (q - n)) ∧ w = w' := by
  go_enter Try.func66, Try.ntmps66
  go_wp2
  go_ret
  exact ⟨rfl, rfl⟩

set_option maxHeartbeats 400000 in
theorem szInt64S_big (A : Option Addr) (n c : Nat) (q : Int) (hq : q < (n : Int)) (hq0 : 0 ≤ q) (hq2 : q ≤ 1048576) (hm : n ≤ maxLen) (w : World) :
    Calls Try.prog 66 #[.slice A n c, .int .i64 q] w fun e w' => e = .returned (.int .i64 (-1)) ∧ w = w' := by
  unfold maxLen at hm
  go_enter Try.func66, Try.ntmps66
  go_wp2
  go_ret
  exact ⟨rfl, rfl⟩

set_option maxHeartbeats 1000000 in
theorem toInt64S_any (A : Option Addr) (n c lo hi : Nat) (l : List (Int)) (hn : n ≤ 1048576) (w : World) (hl : l.length = n) (h : Rd w lo hi 1 A n (rInt64 l)) (hhi : hi ≤ w.heap.size) :
    Calls Try.prog 16 #[.slice A n c] w fun e w' => ∃ v, e = .returned v ∧ Own w' w.heap.size w'.heap.size 2 1 v n (rInt64 l) ∧ Below w.heap.size w w' := by
  obtain ⟨i0, hi0, hz0, hz1, hz2⟩ := info_parts infoInt64
  go_enter Try.func16, Try.ntmps16
  go_wp2_with (at_make; refine wpList_make_full _ rfl (.tmp 6) (.tmp 6) 23 rfl w.heap.size 2 i0 (.int .i64 0) 1 Try.underlying23 hi0 hz0 hz1 .i64 .i64 _ _ n rfl rfl rfl rfl (by rw [hz2]; omega) (by unfold maxLen; omega) (Nat.le_refl _) ?_; intro w1 hown hg)
  clear hi0 hz0 hz1 hz2
  have H1 := hide hl
  have H2 := hide h
  clear hl h
  have hb1 : Below w.heap.size w w1 := (Below.refl _ _).grown hg (Nat.le_refl _) (by simp)
  have hzl : (madeCells (Value.cells (.int .i64 0)) (n * 1)).toList.length = (rInt64 l).length := by rw [hown.1, rInt64_length, H1.out]
  generalize (madeCells (Value.cells (.int .i64 0)) (n * 1)).toList = zs at *
  have Hz := hide hzl
  clear hzl
  go_loopw [4] (fun i wr => ∃ k : Nat, k ≤ n ∧ i = .int .i64 k ∧ wr.ownsRow w.heap.size 2 1 (.slice (some ⟨w.heap.size, 0, none⟩) n n) n (fill (rInt64 l) zs (k * 1)) ∧ Below w.heap.size w wr) (fun i _ => n - (intOf i).toNat)
  case atStart =>
    exact ⟨0, by omega, rfl, by rw [Nat.zero_mul, fill_zero]; exact hown, hb1⟩
  case round =>
    obtain ⟨k, hk, rfl, ho, hbr⟩ := hrel
    by_cases hlt : k < n
    · have hlen : k < l.length := by rw [H1.out]; exact hlt
      have t0 := rInt64_at l k hlen
      obtain ⟨b, off, rfl, hb1', hb2', hc⟩ := H2.out.2 (by omega)
      have c0 : wr.cell? ⟨b, off + k, none⟩ = some (.int .i64 l[k]) := (hbr.cell (p := ⟨b, _, none⟩) (by show b < _; omega)).trans (hc _ _ (by simpa using t0))
      generalize l[k] = x0 at *
      have T0 := hide t0
      clear t0
      clear hc
      have ho2 := ho
      obtain ⟨u0, hu0⟩ := fill_get1 (m := k * 1) (j := k * 1) Hz.out (by omega) (by rw [rInt64_length]; omega)
      have d0 : wr.cell? ⟨w.heap.size, k, none⟩ = some u0 := (ho2.cellAt _ (by omega)).trans (by simpa using hu0)
      have f0 := ho2.frozenAt (k)
      clear hu0
      go_wp2_with fail
      go_roundw
      case rel =>
        refine ⟨k + 1, by omega, by go_num, ?_, (hbr.setCell (Nat.le_refl _) _)⟩
        have s := (ho2.stored (k * 1) (.int .i64 x0)).1
        rw [fill_set Hz.out T0.out] at s
        rw [show (k + 1) * 1 = k * 1 + 1 by omega]
        first | exact s | simpa using s
      case measure => simp [intOf]; omega
    · obtain rfl : k = n := by omega
      go_wp2
      go_ret
      refine ⟨_, rfl, Own.of_owns ?_, hbr⟩
      rw [fill_all Hz.out (by rw [rInt64_length, H1.out])] at ho
      exact ho

set_option maxHeartbeats 1000000 in
theorem eqInt64S_same (A A' : Option Addr) (n c c' lo hi lo' hi' : Nat) (l : List (Int)) (hn : n ≤ 1048576) (w : World) (hl : l.length = n) (h : Rd w lo hi 1 A n (rInt64 l)) (h' : Rd w lo' hi' 1 A' n (rInt64 l)) (hhi : hi ≤ w.heap.size) (hhi' : hi' ≤ w.heap.size) :
    Calls Try.prog 19 #[.slice A n c, .slice A' n c'] w fun e w' => e = .returned (.bool true) ∧ Below w.heap.size w w' := by
  have H1 := hide hl
  have H2 := hide h
  have H3 := hide h'
  clear hl h h'
  go_enter Try.func19, Try.ntmps19
  go_wp2
  go_loopw [5] (fun i wr => ∃ k : Nat, k ≤ n ∧ i = .int .i64 k ∧ Below w.heap.size w wr) (fun i _ => n - (intOf i).toNat)
  case atStart => exact ⟨0, by omega, rfl, Below.refl _ _⟩
  case round =>
    obtain ⟨k, hk, rfl, hbr⟩ := hrel
    by_cases hlt : k < n
    · have hlen : k < l.length := by rw [H1.out]; exact hlt
      have t0 := rInt64_at l k hlen
      obtain ⟨b, off, rfl, hb1', hb2', hc⟩ := H2.out.2 (by omega)
      obtain ⟨b', off', rfl, hb1'', hb2'', hc'⟩ := H3.out.2 (by omega)
      have c0 : wr.cell? ⟨b, off + k, none⟩ = some (.int .i64 l[k]) := (hbr.cell (p := ⟨b, _, none⟩) (by show b < _; omega)).trans (hc _ _ (by simpa using t0))
      have d0 : wr.cell? ⟨b', off' + k, none⟩ = some (.int .i64 l[k]) := (hbr.cell (p := ⟨b', _, none⟩) (by show b' < _; omega)).trans (hc' _ _ (by simpa using t0))
      generalize l[k] = x0 at *
      clear t0 hc hc'
      go_wp2_with fail
      go_quiet (fail)
      go_wp2_with fail
      go_roundw
      case rel => exact ⟨k + 1, by omega, by go_num, hbr.trans (Joins.below_draws _ _ _)⟩
      case measure => simp [intOf]; omega
    · obtain rfl : k = n := by omega
      go_wp2
      go_ret
      exact ⟨rfl, hbr⟩

set_option maxHeartbeats 1000000 in
theorem markInt64S_any (v : Value) (n lo hi : Nat) (xs : List Value) (q : Int) (hq : 0 ≤ q) (hq2 : q ≤ 100000000) (hn : n ≤ 1048576) (w : World) (h : Own w lo hi 2 1 v n xs) (hlh : lo ≤ hi) :
    Calls Try.prog 28 #[v, .int .i64 q] w fun e w' => e = .returned (.int .i64 (q + ((n * 1 : Nat) : Int))) ∧ Own w' lo hi 2 1 v n (marks q (n * 1)) ∧ Tch lo hi w w' := by
  obtain ⟨A, c, rfl, hnc, hcm, hrd⟩ := h.rd
  have hz : xs.length = (marks q (n * 1)).length := by rw [marks_length, h.length]
  have Hz := hide hz
  have Hh := h.2
  have ho0 := h.1
  clear hz hrd h
  go_enter Try.func28, Try.ntmps28
  go_wp2
  go_loopw [1, 5] (fun kk i wr => ∃ k : Nat, k ≤ n ∧ i = .int .i64 k ∧ kk = .int .i64 (q + ((k * 1 : Nat) : Int)) ∧ wr.ownsRow lo 2 1 (.slice A n c) n (fill (marks q (n * 1)) xs (k * 1)) ∧ Tch lo hi w wr) (fun _ i _ => n - (intOf i).toNat)
  case atStart =>
    exact ⟨0, by omega, rfl, vint (by omega), by rw [Nat.zero_mul, fill_zero]; exact ho0, Tch.refl _ _ _⟩
  case round =>
    obtain ⟨k, hk, rfl, rfl, ho, ht⟩ := hrel
    by_cases hlt : k < n
    · obtain ⟨g, cap, hv⟩ := Joins.ownsRow_form ho (by omega)
      obtain ⟨rfl, rfl⟩ : A = some ⟨g, 0, none⟩ ∧ c = cap := by injection hv with e1 e2 e3; exact ⟨e1, e3⟩
      clear hv
      have hgh : g < hi := Hh g rfl
      have hgl : lo ≤ g := (ho.lt g rfl).1
      obtain ⟨u0, hu0⟩ := fill_get1 (xs := marks q (n * 1)) (m := k * 1) (j := k * 1) Hz.out (by omega) (by rw [marks_length]; omega)
      have d0 : wr.cell? ⟨g, k, none⟩ = some u0 := (ho.cellAt _ (by omega)).trans (by simpa using hu0)
      have f0 := ho.frozenAt (k)
      clear hu0
      go_wp2_with fail
      go_roundw
      case rel =>
        refine ⟨k + 1, by omega, by go_num, vint (by omega), ?_, (tch_set ht (by omega) (by omega) _ _)⟩
        have s := (ho.stored (k * 1) (.int .i64 (q + ((k * 1 : Nat) : Int)))).1
        rw [fill_set Hz.out (marks_at q (n * 1) _ (by omega))] at s
        simp only [Nat.mul_one] at s ⊢
        exact own_eq s (setCell_congr rfl (vint (by omega))) rfl
      case measure => simp [intOf]; omega
    · obtain rfl : k = n := by omega
      go_wp2
      go_ret
      rw [fill_all Hz.out (by rw [marks_length])] at ho
      exact ⟨rfl, ⟨ho, Hh⟩, ht⟩

set_option maxHeartbeats 1000000 in
theorem heldInt64S_any (A : Option Addr) (n c lo hi : Nat) (q : Int) (hq : 0 ≤ q) (hq2 : q ≤ 100000000) (hn : n ≤ 1048576) (w : World) (h : Rd w lo hi 1 A n (marks q (n * 1))) :
    Calls Try.prog 43 #[.slice A n c, .int .i64 q] w fun e w' => e = .returned (.int .i64 (q + ((n * 1 : Nat) : Int))) ∧ w = w' := by
  have H2 := hide h
  clear h
  go_enter Try.func43, Try.ntmps43
  go_wp2
  go_loop [1, 5] (fun kk i => ∃ k : Nat, k ≤ n ∧ i = .int .i64 k ∧ kk = .int .i64 (q + ((k * 1 : Nat) : Int))) (fun _ i => n - (intOf i).toNat)
  case atStart =>
    exact ⟨0, by omega, rfl, vint (by omega)⟩
  case round =>
    obtain ⟨k, hk, rfl, rfl⟩ := hrel
    by_cases hlt : k < n
    · obtain ⟨b, off, rfl, hb1', hb2', hc⟩ := H2.out.2 (by omega)
      have c0 : w.cell? ⟨b, off + k, none⟩ = some (.int .i64 (q + (k : Int))) := (by simpa using hc k _ (marks_at q (n * 1) _ (by omega)))
      clear hc
      go_wp2_with fail
      go_round
      case rel => exact ⟨k + 1, by omega, by go_num, vint (by omega)⟩
      case measure => simp [intOf]; omega
    · obtain rfl : k = n := by omega
      go_wp2
      go_ret
      exact ⟨rfl, rfl⟩

end Go.Proofs.Ythpoapkdlcoikaa
