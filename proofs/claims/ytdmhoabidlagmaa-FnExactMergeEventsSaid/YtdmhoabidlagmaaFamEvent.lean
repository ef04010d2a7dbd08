/-
  CONTRACTS of the laws' helpers on a slice of events: copying, comparing, marking. No condition but those that each theorem names.
-/
import Derived.Test.YtdmhoabidlagmaaMem
namespace Go.Proofs.Ytdmhoabidlagmaa
open Go.RowKit
set_option linter.unusedVariables false

/-- The cells of one element, and of a list of elements. -/
def cEvent (p : Int × Int × Int × Int) : List Value := [.int .i64 p.1, .int .i64 p.2.1, .int .i64 p.2.2.1, .int .i64 p.2.2.2]
def rEvent (l : List (Int × Int × Int × Int)) : List Value := rows cEvent l
theorem rEvent_length (l : List (Int × Int × Int × Int)) : (rEvent l).length = l.length * 4 := rows_length (f := cEvent) (fun _ => rfl) l
theorem rEvent_at (l : List (Int × Int × Int × Int)) (k : Nat) (h : k < l.length) : (rEvent l)[k * 4]? = some (.int .i64 l[k].1) ∧ (rEvent l)[k * 4 + 1]? = some (.int .i64 l[k].2.1) ∧ (rEvent l)[k * 4 + 2]? = some (.int .i64 l[k].2.2.1) ∧ (rEvent l)[k * 4 + 3]? = some (.int .i64 l[k].2.2.2) := by
  have h0 := fun j (hj : j < 4) => rows_at (f := cEvent) (m := 4) (fun _ => rfl) l k h j hj
  exact ⟨h0 0 (by omega), h0 1 (by omega), h0 2 (by omega), h0 3 (by omega)⟩
theorem infoEvent : (Try.prog.info? 33).map (fun i => (i.zero, i.size, i.bytes)) = some (some (.agg #[.int .i64 0, .int .i64 0, .int .i64 0, .int .i64 0]), 4, 32) := by kernel_rfl

set_option maxRecDepth 100000 in
set_option maxHeartbeats 400000 in
theorem szEventS_ok (A : Option Addr) (n c : Nat) (q : Int) (hq : (n : Int) ≤ q) (hq2 : q ≤ 1048576) (w : World) :
    Calls Try.prog 4 #[.slice A n c, .int .i64 q] w fun e w' => e = .returned (.int .i64 (q - n)) ∧ w = w' := by
  go_enter Try.func4, Try.ntmps4
  go_wp2
  go_ret
  exact ⟨rfl, rfl⟩

set_option maxRecDepth 100000 in
set_option maxHeartbeats 400000 in
theorem szEventS_big (A : Option Addr) (n c : Nat) (q : Int) (hq : q < (n : Int)) (hq0 : 0 ≤ q) (hq2 : q ≤ 1048576) (hm : n ≤ maxLen) (w : World) :
    Calls Try.prog 4 #[.slice A n c, .int .i64 q] w fun e w' => e = .returned (.int .i64 (-1)) ∧ w = w' := by
  unfold maxLen at hm
  go_enter Try.func4, Try.ntmps4
  go_wp2
  go_ret
  exact ⟨rfl, rfl⟩

set_option maxRecDepth 100000 in
set_option maxHeartbeats 400000 in
theorem toEvent_any (x0 : Int) (x1 : Int) (x2 : Int) (x3 : Int) (w : World) :
    Calls Try.prog 12 #[.agg #[.int .i64 x0, .int .i64 x1, .int .i64 x2, .int .i64 x3]] w fun e w' => e = .returned (.agg #[.int .i64 x0, .int .i64 x1, .int .i64 x2, .int .i64 x3]) ∧ Below w.heap.size w w' := by
  go_enter Try.func12, Try.ntmps12
  go_wp2
  refine bodyPost_ret (v := .agg #[.int .i64 x0, .int .i64 x1, .int .i64 x2, .int .i64 x3]) (by simp [results, Try.results12, go_sem]) rfl ⟨rfl, ?_⟩
  repeat (first | exact Below.refl _ _ | refine Below.drew ?_ | refine Below.alloc ?_ (by first | omega | (simp; done) | (simp; omega) | (simp at *; omega)) _ | refine Below.setCell ?_ (by first | omega | (simp; done) | (simp; omega) | (simp at *; omega)) _ | refine Below.trans ?_ (Below.mono (by assumption) (by first | omega | (simp; done) | (simp; omega) | (simp at *; omega))))

set_option maxRecDepth 100000 in
set_option maxHeartbeats 1000000 in
theorem toEventS_any (A : Option Addr) (n c lo hi : Nat) (l : List (Int × Int × Int × Int)) (hn : n ≤ 1048576) (w : World) (hl : l.length = n) (h : Rd w lo hi 4 A n (rEvent l)) (hhi : hi ≤ w.heap.size) :
    Calls Try.prog 6 #[.slice A n c] w fun e w' => ∃ v, e = .returned v ∧ Own w' w.heap.size w'.heap.size 33 4 v n (rEvent l) ∧ Below w.heap.size w w' := by
  obtain ⟨i0, hi0, hz0, hz1, hz2⟩ := info_parts infoEvent
  go_enter Try.func6, Try.ntmps6
  go_wp2_with (at_make; refine wpList_make_full _ rfl (.tmp 6) (.tmp 6) 24 rfl w.heap.size 33 i0 (.agg #[.int .i64 0, .int .i64 0, .int .i64 0, .int .i64 0]) 4 Try.underlying24 hi0 hz0 hz1 .i64 .i64 _ _ n rfl rfl rfl rfl (by rw [hz2]; omega) (by unfold maxLen; omega) (Nat.le_refl _) ?_; intro w1 hown hg)
  clear hi0 hz0 hz1 hz2
  have H1 := hide hl
  have H2 := hide h
  clear hl h
  have hb1 : Below w.heap.size w w1 := (Below.refl _ _).grown hg (Nat.le_refl _) (by simp)
  have hzl : (madeCells (Value.cells (.agg #[.int .i64 0, .int .i64 0, .int .i64 0, .int .i64 0])) (n * 4)).toList.length = (rEvent l).length := by rw [hown.1, rEvent_length, H1.out]
  generalize (madeCells (Value.cells (.agg #[.int .i64 0, .int .i64 0, .int .i64 0, .int .i64 0])) (n * 4)).toList = zs at *
  have Hz := hide hzl
  clear hzl
  go_loopw [4] (fun i wr => ∃ k : Nat, k ≤ n ∧ i = .int .i64 k ∧ wr.ownsRow w.heap.size 33 4 (.slice (some ⟨w.heap.size, 0, none⟩) n n) n (fill (rEvent l) zs (k * 4)) ∧ Below w.heap.size w wr) (fun i _ => n - (intOf i).toNat)
  case atStart =>
    exact ⟨0, by omega, rfl, by rw [Nat.zero_mul, fill_zero]; exact hown, hb1⟩
  case round =>
    obtain ⟨k, hk, rfl, ho, hbr⟩ := hrel
    by_cases hlt : k < n
    · have hlen : k < l.length := by rw [H1.out]; exact hlt
      obtain ⟨t0, t1, t2, t3⟩ := rEvent_at l k hlen
      obtain ⟨b, off, rfl, hb1', hb2', hc⟩ := H2.out.2 (by omega)
      have c0 : wr.cell? ⟨b, off + k * 4, none⟩ = some (.int .i64 l[k].1) := (hbr.cell (p := ⟨b, _, none⟩) (by show b < _; omega)).trans (hc _ _ t0)
      have c1 : wr.cell? ⟨b, off + k * 4 + 1, none⟩ = some (.int .i64 l[k].2.1) := (hbr.cell (p := ⟨b, _, none⟩) (by show b < _; omega)).trans (hc _ _ t1)
      have c2 : wr.cell? ⟨b, off + k * 4 + 2, none⟩ = some (.int .i64 l[k].2.2.1) := (hbr.cell (p := ⟨b, _, none⟩) (by show b < _; omega)).trans (hc _ _ t2)
      have c3 : wr.cell? ⟨b, off + k * 4 + 3, none⟩ = some (.int .i64 l[k].2.2.2) := (hbr.cell (p := ⟨b, _, none⟩) (by show b < _; omega)).trans (hc _ _ t3)
      generalize l[k].1 = x0 at *
      generalize l[k].2.1 = x1 at *
      generalize l[k].2.2.1 = x2 at *
      generalize l[k].2.2.2 = x3 at *
      have T0 := hide t0
      clear t0
      have T1 := hide t1
      clear t1
      have T2 := hide t2
      clear t2
      have T3 := hide t3
      clear t3
      clear hc
      go_wp2_with fail
      refine (toEvent_any _ _ _ _ _).mono ?_
      rintro e w2 ⟨rfl, hb2⟩
      have ho2 := owns_below ho hb2
      obtain ⟨u0, hu0⟩ := fill_get1 (m := k * 4) (j := k * 4) Hz.out (by omega) (by rw [rEvent_length]; omega)
      obtain ⟨u1, hu1⟩ := fill_get1 (m := k * 4) (j := k * 4 + 1) Hz.out (by omega) (by rw [rEvent_length]; omega)
      obtain ⟨u2, hu2⟩ := fill_get1 (m := k * 4) (j := k * 4 + 2) Hz.out (by omega) (by rw [rEvent_length]; omega)
      obtain ⟨u3, hu3⟩ := fill_get1 (m := k * 4) (j := k * 4 + 3) Hz.out (by omega) (by rw [rEvent_length]; omega)
      have d0 : w2.cell? ⟨w.heap.size, k * 4, none⟩ = some u0 := (ho2.cellAt _ (by omega)).trans (by simpa using hu0)
      have f0 := ho2.frozenAt (k * 4)
      have d1 : w2.cell? ⟨w.heap.size, k * 4 + 1, none⟩ = some u1 := (ho2.cellAt _ (by omega)).trans (by simpa using hu1)
      have f1 := ho2.frozenAt (k * 4 + 1)
      have d2 : w2.cell? ⟨w.heap.size, k * 4 + 2, none⟩ = some u2 := (ho2.cellAt _ (by omega)).trans (by simpa using hu2)
      have f2 := ho2.frozenAt (k * 4 + 2)
      have d3 : w2.cell? ⟨w.heap.size, k * 4 + 3, none⟩ = some u3 := (ho2.cellAt _ (by omega)).trans (by simpa using hu3)
      have f3 := ho2.frozenAt (k * 4 + 3)
      clear hu0 hu1 hu2 hu3
      go_wp2_with fail
      go_roundw
      case rel =>
        refine ⟨k + 1, by omega, by go_num, ?_, (((((hbr.trans (hb2.mono hbr.size)).setCell (Nat.le_refl _) _).setCell (Nat.le_refl _) _).setCell (Nat.le_refl _) _).setCell (Nat.le_refl _) _)⟩
        have s := ((((ho2.stored (k * 4) (.int .i64 x0)).1.stored (k * 4 + 1) (.int .i64 x1)).1.stored (k * 4 + 2) (.int .i64 x2)).1.stored (k * 4 + 3) (.int .i64 x3)).1
        rw [fill_set Hz.out T0.out, fill_set Hz.out T1.out, fill_set Hz.out T2.out, fill_set Hz.out T3.out] at s
        rw [show (k + 1) * 4 = k * 4 + 1 + 1 + 1 + 1 by omega]
        first | exact s | simpa using s
      case measure => simp [intOf]; omega
    · obtain rfl : k = n := by omega
      go_wp2
      go_ret
      refine ⟨_, rfl, Own.of_owns ?_, hbr⟩
      rw [fill_all Hz.out (by rw [rEvent_length, H1.out])] at ho
      exact ho

set_option maxRecDepth 100000 in
set_option maxHeartbeats 400000 in
theorem eqEvent_same (x0 : Int) (x1 : Int) (x2 : Int) (x3 : Int) (w : World) :
    Calls Try.prog 17 #[.agg #[.int .i64 x0, .int .i64 x1, .int .i64 x2, .int .i64 x3], .agg #[.int .i64 x0, .int .i64 x1, .int .i64 x2, .int .i64 x3]] w fun e w' => e = .returned (.bool true) ∧ Below w.heap.size w w' := by
  go_enter Try.func17, Try.ntmps17
  go_wp2
  go_ret
  refine ⟨rfl, ?_⟩
  repeat (first | exact Below.refl _ _ | refine Below.drew ?_ | refine Below.alloc ?_ (by first | omega | (simp; done) | (simp; omega) | (simp at *; omega)) _ | refine Below.setCell ?_ (by first | omega | (simp; done) | (simp; omega) | (simp at *; omega)) _ | refine Below.trans ?_ (Below.mono (by assumption) (by first | omega | (simp; done) | (simp; omega) | (simp at *; omega))))

set_option maxRecDepth 100000 in
set_option maxHeartbeats 1000000 in
theorem eqEventS_same (A A' : Option Addr) (n c c' lo hi lo' hi' : Nat) (l : List (Int × Int × Int × Int)) (hn : n ≤ 1048576) (w : World) (hl : l.length = n) (h : Rd w lo hi 4 A n (rEvent l)) (h' : Rd w lo' hi' 4 A' n (rEvent l)) (hhi : hi ≤ w.heap.size) (hhi' : hi' ≤ w.heap.size) :
    Calls Try.prog 8 #[.slice A n c, .slice A' n c'] w fun e w' => e = .returned (.bool true) ∧ Below w.heap.size w w' := by
  have H1 := hide hl
  have H2 := hide h
  have H3 := hide h'
  clear hl h h'
  go_enter Try.func8, Try.ntmps8
  go_wp2
  go_loopw [5] (fun i wr => ∃ k : Nat, k ≤ n ∧ i = .int .i64 k ∧ Below w.heap.size w wr) (fun i _ => n - (intOf i).toNat)
  case atStart => exact ⟨0, by omega, rfl, Below.refl _ _⟩
  case round =>
    obtain ⟨k, hk, rfl, hbr⟩ := hrel
    by_cases hlt : k < n
    · have hlen : k < l.length := by rw [H1.out]; exact hlt
      obtain ⟨t0, t1, t2, t3⟩ := rEvent_at l k hlen
      obtain ⟨b, off, rfl, hb1', hb2', hc⟩ := H2.out.2 (by omega)
      obtain ⟨b', off', rfl, hb1'', hb2'', hc'⟩ := H3.out.2 (by omega)
      have c0 : wr.cell? ⟨b, off + k * 4, none⟩ = some (.int .i64 l[k].1) := (hbr.cell (p := ⟨b, _, none⟩) (by show b < _; omega)).trans (hc _ _ t0)
      have c1 : wr.cell? ⟨b, off + k * 4 + 1, none⟩ = some (.int .i64 l[k].2.1) := (hbr.cell (p := ⟨b, _, none⟩) (by show b < _; omega)).trans (hc _ _ t1)
      have c2 : wr.cell? ⟨b, off + k * 4 + 2, none⟩ = some (.int .i64 l[k].2.2.1) := (hbr.cell (p := ⟨b, _, none⟩) (by show b < _; omega)).trans (hc _ _ t2)
      have c3 : wr.cell? ⟨b, off + k * 4 + 3, none⟩ = some (.int .i64 l[k].2.2.2) := (hbr.cell (p := ⟨b, _, none⟩) (by show b < _; omega)).trans (hc _ _ t3)
      have d0 : wr.cell? ⟨b', off' + k * 4, none⟩ = some (.int .i64 l[k].1) := (hbr.cell (p := ⟨b', _, none⟩) (by show b' < _; omega)).trans (hc' _ _ t0)
      have d1 : wr.cell? ⟨b', off' + k * 4 + 1, none⟩ = some (.int .i64 l[k].2.1) := (hbr.cell (p := ⟨b', _, none⟩) (by show b' < _; omega)).trans (hc' _ _ t1)
      have d2 : wr.cell? ⟨b', off' + k * 4 + 2, none⟩ = some (.int .i64 l[k].2.2.1) := (hbr.cell (p := ⟨b', _, none⟩) (by show b' < _; omega)).trans (hc' _ _ t2)
      have d3 : wr.cell? ⟨b', off' + k * 4 + 3, none⟩ = some (.int .i64 l[k].2.2.2) := (hbr.cell (p := ⟨b', _, none⟩) (by show b' < _; omega)).trans (hc' _ _ t3)
      generalize l[k].1 = x0 at *
      generalize l[k].2.1 = x1 at *
      generalize l[k].2.2.1 = x2 at *
      generalize l[k].2.2.2 = x3 at *
      clear t0 t1 t2 t3 hc hc'
      go_wp2_with fail
      go_still_tail 8, (by kernel_rfl)
      go_wp2_with fail
      refine (eqEvent_same _ _ _ _ _).mono ?_
      rintro e w2 ⟨rfl, hb2⟩
      go_wp2_with fail
      go_roundw
      case rel => exact ⟨k + 1, by omega, by go_num, hbr.drew.trans (hb2.mono hbr.size)⟩
      case measure => simp [intOf]; omega
    · obtain rfl : k = n := by omega
      go_wp2
      go_ret
      exact ⟨rfl, hbr⟩

set_option maxRecDepth 100000 in
set_option maxHeartbeats 1000000 in
theorem markEventS_any (v : Value) (n lo hi : Nat) (xs : List Value) (q : Int) (hq : 0 ≤ q) (hq2 : q ≤ 100000000) (hn : n ≤ 1048576) (w : World) (h : Own w lo hi 33 4 v n xs) (hlh : lo ≤ hi) :
    Calls Try.prog 9 #[v, .int .i64 q] w fun e w' => e = .returned (.int .i64 (q + ((n * 4 : Nat) : Int))) ∧ Own w' lo hi 33 4 v n (marks q (n * 4)) ∧ Tch lo hi w w' := by
  obtain ⟨A, c, rfl, hnc, hcm, hrd⟩ := h.rd
  have hz : xs.length = (marks q (n * 4)).length := by rw [marks_length, h.length]
  have Hz := hide hz
  have Hh := h.2
  have ho0 := h.1
  clear hz hrd h
  go_enter Try.func9, Try.ntmps9
  go_wp2
  go_loopw [1, 5] (fun kk i wr => ∃ k : Nat, k ≤ n ∧ i = .int .i64 k ∧ kk = .int .i64 (q + ((k * 4 : Nat) : Int)) ∧ wr.ownsRow lo 33 4 (.slice A n c) n (fill (marks q (n * 4)) xs (k * 4)) ∧ Tch lo hi w wr) (fun _ i _ => n - (intOf i).toNat)
  case atStart =>
    exact ⟨0, by omega, rfl, vint (by omega), by rw [Nat.zero_mul, fill_zero]; exact ho0, Tch.refl _ _ _⟩
  case round =>
    obtain ⟨k, hk, rfl, rfl, ho, ht⟩ := hrel
    by_cases hlt : k < n
    · obtain ⟨g, cap, hv⟩ := Joins.ownsRow_form ho (by omega)
      obtain ⟨rfl, rfl⟩ : A = some ⟨g, 0, none⟩ ∧ c = cap := by injection hv with e1 e2 e3; exact ⟨e1, e3⟩
      clear hv
      have hgh : g < hi := Hh g rfl
      have hgl : lo ≤ g := (ho.lt g rfl).1
      obtain ⟨u0, hu0⟩ := fill_get1 (xs := marks q (n * 4)) (m := k * 4) (j := k * 4) Hz.out (by omega) (by rw [marks_length]; omega)
      obtain ⟨u1, hu1⟩ := fill_get1 (xs := marks q (n * 4)) (m := k * 4) (j := k * 4 + 1) Hz.out (by omega) (by rw [marks_length]; omega)
      obtain ⟨u2, hu2⟩ := fill_get1 (xs := marks q (n * 4)) (m := k * 4) (j := k * 4 + 2) Hz.out (by omega) (by rw [marks_length]; omega)
      obtain ⟨u3, hu3⟩ := fill_get1 (xs := marks q (n * 4)) (m := k * 4) (j := k * 4 + 3) Hz.out (by omega) (by rw [marks_length]; omega)
      have d0 : wr.cell? ⟨g, k * 4, none⟩ = some u0 := (ho.cellAt _ (by omega)).trans (by simpa using hu0)
      have f0 := ho.frozenAt (k * 4)
      have d1 : wr.cell? ⟨g, k * 4 + 1, none⟩ = some u1 := (ho.cellAt _ (by omega)).trans (by simpa using hu1)
      have f1 := ho.frozenAt (k * 4 + 1)
      have d2 : wr.cell? ⟨g, k * 4 + 2, none⟩ = some u2 := (ho.cellAt _ (by omega)).trans (by simpa using hu2)
      have f2 := ho.frozenAt (k * 4 + 2)
      have d3 : wr.cell? ⟨g, k * 4 + 3, none⟩ = some u3 := (ho.cellAt _ (by omega)).trans (by simpa using hu3)
      have f3 := ho.frozenAt (k * 4 + 3)
      clear hu0 hu1 hu2 hu3
      go_wp2_with fail
      go_roundw
      case rel =>
        refine ⟨k + 1, by omega, by go_num, vint (by omega), ?_, (tch_set (tch_set (tch_set (tch_set ht (by omega) (by omega) _ _) (by omega) (by omega) _ _) (by omega) (by omega) _ _) (by omega) (by omega) _ _)⟩
        have s := ((((ho.stored (k * 4) (.int .i64 (q + ((k * 4 : Nat) : Int)))).1.stored (k * 4 + 1) (.int .i64 (q + ((k * 4 + 1 : Nat) : Int)))).1.stored (k * 4 + 2) (.int .i64 (q + ((k * 4 + 2 : Nat) : Int)))).1.stored (k * 4 + 3) (.int .i64 (q + ((k * 4 + 3 : Nat) : Int)))).1
        rw [fill_set Hz.out (marks_at q (n * 4) _ (by omega)), fill_set Hz.out (marks_at q (n * 4) _ (by omega)), fill_set Hz.out (marks_at q (n * 4) _ (by omega)), fill_set Hz.out (marks_at q (n * 4) _ (by omega))] at s
        rw [show (k + 1) * 4 = k * 4 + 1 + 1 + 1 + 1 by omega]
        exact own_eq s (setCell_congr (setCell_congr (setCell_congr (setCell_congr rfl (vint (by omega))) (vint (by omega))) (vint (by omega))) (vint (by omega))) rfl
      case measure => simp [intOf]; omega
    · obtain rfl : k = n := by omega
      go_wp2
      go_ret
      rw [fill_all Hz.out (by rw [marks_length])] at ho
      exact ⟨rfl, ⟨ho, Hh⟩, ht⟩

set_option maxRecDepth 100000 in
set_option maxHeartbeats 1000000 in
theorem heldEventS_any (A : Option Addr) (n c lo hi : Nat) (q : Int) (hq : 0 ≤ q) (hq2 : q ≤ 100000000) (hn : n ≤ 1048576) (w : World) (h : Rd w lo hi 4 A n (marks q (n * 4))) :
    Calls Try.prog 10 #[.slice A n c, .int .i64 q] w fun e w' => e = .returned (.int .i64 (q + ((n * 4 : Nat) : Int))) ∧ w = w' := by
  have H2 := hide h
  clear h
  go_enter Try.func10, Try.ntmps10
  go_wp2
  go_loop [1, 5] (fun kk i => ∃ k : Nat, k ≤ n ∧ i = .int .i64 k ∧ kk = .int .i64 (q + ((k * 4 : Nat) : Int))) (fun _ i => n - (intOf i).toNat)
  case atStart =>
    exact ⟨0, by omega, rfl, vint (by omega)⟩
  case round =>
    obtain ⟨k, hk, rfl, rfl⟩ := hrel
    by_cases hlt : k < n
    · obtain ⟨b, off, rfl, hb1', hb2', hc⟩ := H2.out.2 (by omega)
      have c0 : w.cell? ⟨b, off + k * 4, none⟩ = some (.int .i64 (q + (k : Int) * 4)) := (hc (k * 4) _ (marks_at q (n * 4) _ (by omega))).trans (congrArg some (vint (by omega)))
      have c1 : w.cell? ⟨b, off + k * 4 + 1, none⟩ = some (.int .i64 (q + (k : Int) * 4 + 1)) := (hc (k * 4 + 1) _ (marks_at q (n * 4) _ (by omega))).trans (congrArg some (vint (by omega)))
      have c2 : w.cell? ⟨b, off + k * 4 + 2, none⟩ = some (.int .i64 (q + (k : Int) * 4 + 1 + 1)) := (hc (k * 4 + 2) _ (marks_at q (n * 4) _ (by omega))).trans (congrArg some (vint (by omega)))
      have c3 : w.cell? ⟨b, off + k * 4 + 3, none⟩ = some (.int .i64 (q + (k : Int) * 4 + 1 + 1 + 1)) := (hc (k * 4 + 3) _ (marks_at q (n * 4) _ (by omega))).trans (congrArg some (vint (by omega)))
      clear hc
      go_wp2_with fail
      go_round
      case rel => exact ⟨k + 1, by omega, by go_num, vint (by omega)⟩
      case measure => simp [intOf]; omega
    · obtain rfl : k = n := by omega
      go_wp2
      go_ret
      exact ⟨rfl, rfl⟩

end Go.Proofs.Ytdmhoabidlagmaa
