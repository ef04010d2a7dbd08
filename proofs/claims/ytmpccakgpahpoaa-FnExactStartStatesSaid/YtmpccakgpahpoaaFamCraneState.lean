/-
  CONTRACTS of the laws' helpers on a slice of states of cranes: copying, comparing, marking. No condition but those that each theorem names.
-/
import Derived.Test.YtmpccakgpahpoaaMem
namespace Go.Proofs.Ytmpccakgpahpoaa
open Go.RowKit
set_option linter.unusedVariables false

/-- The cells of one element, and of a list of elements. -/
def cCraneState (p : Int × Int × Int) : List Value := [.int .i64 p.1, .int .i64 p.2.1, .int .i64 p.2.2]
def rCraneState (l : List (Int × Int × Int)) : List Value := rows cCraneState l
theorem rCraneState_length (l : List (Int × Int × Int)) : (rCraneState l).length = l.length * 3 := rows_length (f := cCraneState) (fun _ => rfl) l
theorem rCraneState_at (l : List (Int × Int × Int)) (k : Nat) (h : k < l.length) : (rCraneState l)[k * 3]? = some (.int .i64 l[k].1) ∧ (rCraneState l)[k * 3 + 1]? = some (.int .i64 l[k].2.1) ∧ (rCraneState l)[k * 3 + 2]? = some (.int .i64 l[k].2.2) := by
  have h0 := fun j (hj : j < 3) => rows_at (f := cCraneState) (m := 3) (fun _ => rfl) l k h j hj
  exact ⟨h0 0 (by omega), h0 1 (by omega), h0 2 (by omega)⟩
theorem infoCraneState : (Try.prog.info? 115).map (fun i => (i.zero, i.size, i.bytes)) = some (some (.agg #[.int .i64 0, .int .i64 0, .int .i64 0]), 3, 24) := by kernel_rfl

set_option maxRecDepth 100000 in
set_option maxHeartbeats 400000 in
theorem eqCraneState_same (x0 : Int) (x1 : Int) (x2 : Int) (w : World) :
    Calls Try.prog 72 #[.agg #[.int .i64 x0, .int .i64 x1, .int .i64 x2], .agg #[.int .i64 x0, .int .i64 x1, .int .i64 x2]] w fun e w' => e = .returned (.bool true) ∧ Below w.heap.size w w' := by
  go_enter Try.func72, Try.ntmps72
  go_wp2
  go_ret
  refine ⟨rfl, ?_⟩
  repeat (first | exact Below.refl _ _ | refine Below.drew ?_ | refine Below.alloc ?_ (by first | omega | (simp; done) | (simp; omega) | (simp at *; omega)) _ | refine Below.setCell ?_ (by first | omega | (simp; done) | (simp; omega) | (simp at *; omega)) _ | refine Below.trans ?_ (Below.mono (by assumption) (by first | omega | (simp; done) | (simp; omega) | (simp at *; omega))))

set_option maxRecDepth 100000 in
set_option maxHeartbeats 1000000 in
theorem eqCraneStateS_same (A A' : Option Addr) (n c c' lo hi lo' hi' : Nat) (l : List (Int × Int × Int)) (hn : n ≤ 1048576) (w : World) (hl : l.length = n) (h : Rd w lo hi 3 A n (rCraneState l)) (h' : Rd w lo' hi' 3 A' n (rCraneState l)) (hhi : hi ≤ w.heap.size) (hhi' : hi' ≤ w.heap.size) :
    Calls Try.prog 35 #[.slice A n c, .slice A' n c'] w fun e w' => e = .returned (.bool true) ∧ Below w.heap.size w w' := by
  have H1 := hide hl
  have H2 := hide h
  have H3 := hide h'
  clear hl h h'
  go_enter Try.func35, Try.ntmps35
  go_wp2
  go_loopw [5] (fun i wr => ∃ k : Nat, k ≤ n ∧ i = .int .i64 k ∧ Below w.heap.size w wr) (fun i _ => n - (intOf i).toNat)
  case atStart => exact ⟨0, by omega, rfl, Below.refl _ _⟩
  case round =>
    obtain ⟨k, hk, rfl, hbr⟩ := hrel
    by_cases hlt : k < n
    · have hlen : k < l.length := by rw [H1.out]; exact hlt
      obtain ⟨t0, t1, t2⟩ := rCraneState_at l k hlen
      obtain ⟨b, off, rfl, hb1', hb2', hc⟩ := H2.out.2 (by omega)
      obtain ⟨b', off', rfl, hb1'', hb2'', hc'⟩ := H3.out.2 (by omega)
      have c0 : wr.cell? ⟨b, off + k * 3, none⟩ = some (.int .i64 l[k].1) := (hbr.cell (p := ⟨b, _, none⟩) (by show b < _; omega)).trans (hc _ _ t0)
      have c1 : wr.cell? ⟨b, off + k * 3 + 1, none⟩ = some (.int .i64 l[k].2.1) := (hbr.cell (p := ⟨b, _, none⟩) (by show b < _; omega)).trans (hc _ _ t1)
      have c2 : wr.cell? ⟨b, off + k * 3 + 2, none⟩ = some (.int .i64 l[k].2.2) := (hbr.cell (p := ⟨b, _, none⟩) (by show b < _; omega)).trans (hc _ _ t2)
      have d0 : wr.cell? ⟨b', off' + k * 3, none⟩ = some (.int .i64 l[k].1) := (hbr.cell (p := ⟨b', _, none⟩) (by show b' < _; omega)).trans (hc' _ _ t0)
      have d1 : wr.cell? ⟨b', off' + k * 3 + 1, none⟩ = some (.int .i64 l[k].2.1) := (hbr.cell (p := ⟨b', _, none⟩) (by show b' < _; omega)).trans (hc' _ _ t1)
      have d2 : wr.cell? ⟨b', off' + k * 3 + 2, none⟩ = some (.int .i64 l[k].2.2) := (hbr.cell (p := ⟨b', _, none⟩) (by show b' < _; omega)).trans (hc' _ _ t2)
      generalize l[k].1 = x0 at *
      generalize l[k].2.1 = x1 at *
      generalize l[k].2.2 = x2 at *
      clear t0 t1 t2 hc hc'
      go_wp2_with fail
      go_still_tail 8, (by kernel_rfl)
      go_wp2_with fail
      refine (eqCraneState_same _ _ _ _).mono ?_
      rintro e w2 ⟨rfl, hb2⟩
      go_wp2_with fail
      go_roundw
      case rel => exact ⟨k + 1, by omega, by go_num, hbr.drew.trans (hb2.mono hbr.size)⟩
      case measure => simp [intOf]; omega
    · obtain rfl : k = n := by omega
      go_wp2
      go_ret
      exact ⟨rfl, hbr⟩

set_option maxHeartbeats 1000000 in
theorem markCraneStateS_any (v : Value) (n lo hi : Nat) (xs : List Value) (q : Int) (hq : 0 ≤ q) (hq2 : q ≤ 100000000) (hn : n ≤ 1048576) (w : World) (h : Own w lo hi 115 3 v n xs) (hlh : lo ≤ hi) :
    Calls Try.prog 37 #[v, .int .i64 q] w fun e w' => e = .returned (.int .i64 (q + ((n * 3 : Nat) : Int))) ∧ Own w' lo hi 115 3 v n (marks q (n * 3)) ∧ Tch lo hi w w' := by
  obtain ⟨A, c, rfl, hnc, hcm, hrd⟩ := h.rd
  have hz : xs.length = (marks q (n * 3)).length := by rw [marks_length, h.length]
  have Hz := hide hz
  have Hh := h.2
  have ho0 := h.1
  clear hz hrd h
  go_enter Try.func37, Try.ntmps37
  go_wp2
  go_loopw [1, 5] (fun kk i wr => ∃ k : Nat, k ≤ n ∧ i = .int .i64 k ∧ kk = .int .i64 (q + ((k * 3 : Nat) : Int)) ∧ wr.ownsRow lo 115 3 (.slice A n c) n (fill (marks q (n * 3)) xs (k * 3)) ∧ Tch lo hi w wr) (fun _ i _ => n - (intOf i).toNat)
  case atStart =>
    exact ⟨0, by omega, rfl, vint (by omega), by rw [Nat.zero_mul, fill_zero]; exact ho0, Tch.refl _ _ _⟩
  case round =>
    obtain ⟨k, hk, rfl, rfl, ho, ht⟩ := hrel
    by_cases hlt : k < n
    · obtain ⟨g, cap, hv⟩ := Joins.ownsRow_form ho (by omega)
      obtain ⟨rfl, rfl⟩ : A = some ⟨g, 0, none⟩ ∧ c = cap := by injection hv with e1 e2 e3; exact ⟨e1, e3⟩
      clear hv
      have hgh : g < hi := Hh g rfl
      have hgl : lo ≤ g := (ho.lt g rfl).1
      obtain ⟨u0, hu0⟩ := fill_get1 (xs := marks q (n * 3)) (m := k * 3) (j := k * 3) Hz.out (by omega) (by rw [marks_length]; omega)
      obtain ⟨u1, hu1⟩ := fill_get1 (xs := marks q (n * 3)) (m := k * 3) (j := k * 3 + 1) Hz.out (by omega) (by rw [marks_length]; omega)
      obtain ⟨u2, hu2⟩ := fill_get1 (xs := marks q (n * 3)) (m := k * 3) (j := k * 3 + 2) Hz.out (by omega) (by rw [marks_length]; omega)
      have d0 : wr.cell? ⟨g, k * 3, none⟩ = some u0 := (ho.cellAt _ (by omega)).trans (by simpa using hu0)
      have f0 := ho.frozenAt (k * 3)
      have d1 : wr.cell? ⟨g, k * 3 + 1, none⟩ = some u1 := (ho.cellAt _ (by omega)).trans (by simpa using hu1)
      have f1 := ho.frozenAt (k * 3 + 1)
      have d2 : wr.cell? ⟨g, k * 3 + 2, none⟩ = some u2 := (ho.cellAt _ (by omega)).trans (by simpa using hu2)
      have f2 := ho.frozenAt (k * 3 + 2)
      clear hu0 hu1 hu2
      go_wp2_with fail
      go_roundw
      case rel =>
        refine ⟨k + 1, by omega, by go_num, vint (by omega), ?_, (tch_set (tch_set (tch_set ht (by omega) (by omega) _ _) (by omega) (by omega) _ _) (by omega) (by omega) _ _)⟩
        have s := (((ho.stored (k * 3) (.int .i64 (q + ((k * 3 : Nat) : Int)))).1.stored (k * 3 + 1) (.int .i64 (q + ((k * 3 + 1 : Nat) : Int)))).1.stored (k * 3 + 2) (.int .i64 (q + ((k * 3 + 2 : Nat) : Int)))).1
        rw [fill_set Hz.out (marks_at q (n * 3) _ (by omega)), fill_set Hz.out (marks_at q (n * 3) _ (by omega)), fill_set Hz.out (marks_at q (n * 3) _ (by omega))] at s
        rw [show (k + 1) * 3 = k * 3 + 1 + 1 + 1 by omega]
        exact own_eq s (setCell_congr (setCell_congr (setCell_congr rfl (vint (by omega))) (vint (by omega))) (vint (by omega))) rfl
      case measure => simp [intOf]; omega
    · obtain rfl : k = n := by omega
      go_wp2
      go_ret
      rw [fill_all Hz.out (by rw [marks_length])] at ho
      exact ⟨rfl, ⟨ho, Hh⟩, ht⟩

set_option maxHeartbeats 1000000 in
theorem heldCraneStateS_any (A : Option Addr) (n c lo hi : Nat) (q : Int) (hq : 0 ≤ q) (hq2 : q ≤ 100000000) (hn : n ≤ 1048576) (w : World) (h : Rd w lo hi 3 A n (marks q (n * 3))) :
    Calls Try.prog 38 #[.slice A n c, .int .i64 q] w fun e w' => e = .returned (.int .i64 (q + ((n * 3 : Nat) : Int))) ∧ w = w' := by
  have H2 := hide h
  clear h
  go_enter Try.func38, Try.ntmps38
  go_wp2
  go_loop [1, 5] (fun kk i => ∃ k : Nat, k ≤ n ∧ i = .int .i64 k ∧ kk = .int .i64 (q + ((k * 3 : Nat) : Int))) (fun _ i => n - (intOf i).toNat)
  case atStart =>
    exact ⟨0, by omega, rfl, vint (by omega)⟩
  case round =>
    obtain ⟨k, hk, rfl, rfl⟩ := hrel
    by_cases hlt : k < n
    · obtain ⟨b, off, rfl, hb1', hb2', hc⟩ := H2.out.2 (by omega)
      have c0 : w.cell? ⟨b, off + k * 3, none⟩ = some (.int .i64 (q + (k : Int) * 3)) := (hc (k * 3) _ (marks_at q (n * 3) _ (by omega))).trans (congrArg some (vint (by omega)))
      have c1 : w.cell? ⟨b, off + k * 3 + 1, none⟩ = some (.int .i64 (q + (k : Int) * 3 + 1)) := (hc (k * 3 + 1) _ (marks_at q (n * 3) _ (by omega))).trans (congrArg some (vint (by omega)))
      have c2 : w.cell? ⟨b, off + k * 3 + 2, none⟩ = some (.int .i64 (q + (k : Int) * 3 + 1 + 1)) := (hc (k * 3 + 2) _ (marks_at q (n * 3) _ (by omega))).trans (congrArg some (vint (by omega)))
      clear hc
      go_wp2_with fail
      go_round
      case rel => exact ⟨k + 1, by omega, by go_num, vint (by omega)⟩
      case measure => simp [intOf]; omega
    · obtain rfl : k = n := by omega
      go_wp2
      go_ret
      exact ⟨rfl, rfl⟩

end Go.Proofs.Ytmpccakgpahpoaa
