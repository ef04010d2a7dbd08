/-
  CONTRACTS of the laws' helpers on a slice of readings: copying, comparing, marking. No condition but those that each theorem names.
-/
import Derived.Test.YtclfhegjfjcjeaaDoorMem
namespace Go.Proofs.YtclfhegjfjcjeaaDoor
open Go.RowKit
set_option linter.unusedVariables false

/-- The cells of one element, and of a list of elements. -/
def cReading (p : Int × Int) : List Value := [.int .i64 p.1, .int .i64 p.2]
def rReading (l : List (Int × Int)) : List Value := rows cReading l
theorem rReading_length (l : List (Int × Int)) : (rReading l).length = l.length * 2 := rows_length (f := cReading) (fun _ => rfl) l
theorem rReading_at (l : List (Int × Int)) (k : Nat) (h : k < l.length) : (rReading l)[k * 2]? = some (.int .i64 l[k].1) ∧ (rReading l)[k * 2 + 1]? = some (.int .i64 l[k].2) := by
  have h0 := fun j (hj : j < 2) => rows_at (f := cReading) (m := 2) (fun _ => rfl) l k h j hj
  exact ⟨h0 0 (by omega), h0 1 (by omega)⟩
theorem infoReading : (Tryd.prog.info? 33).map (fun i => (i.zero, i.size, i.bytes)) = some (some (.agg #[.int .i64 0, .int .i64 0]), 2, 16) := by kernel_rfl

set_option maxRecDepth 100000 in
set_option maxHeartbeats 400000 in
theorem eqReading_same (x0 : Int) (x1 : Int) (w : World) :
    Calls Tryd.prog 17 #[.agg #[.int .i64 x0, .int .i64 x1], .agg #[.int .i64 x0, .int .i64 x1]] w fun e w' => e = .returned (.bool true) ∧ Below w.heap.size w w' := by
  go_enter Tryd.func17, Tryd.ntmps17
  go_wp2
  go_ret
  refine ⟨rfl, ?_⟩
  repeat (first | exact Below.refl _ _ | refine Below.drew ?_ | refine Below.alloc ?_ (by first | omega | (simp; done) | (simp; omega) | (simp at *; omega)) _ | refine Below.setCell ?_ (by first | omega | (simp; done) | (simp; omega) | (simp at *; omega)) _ | refine Below.trans ?_ (Below.mono (by assumption) (by first | omega | (simp; done) | (simp; omega) | (simp at *; omega))))

set_option maxRecDepth 100000 in
set_option maxHeartbeats 1000000 in
theorem eqReadingS_same (A A' : Option Addr) (n c c' lo hi lo' hi' : Nat) (l : List (Int × Int)) (hn : n ≤ 1048576) (w : World) (hl : l.length = n) (h : Rd w lo hi 2 A n (rReading l)) (h' : Rd w lo' hi' 2 A' n (rReading l)) (hhi : hi ≤ w.heap.size) (hhi' : hi' ≤ w.heap.size) :
    Calls Tryd.prog 6 #[.slice A n c, .slice A' n c'] w fun e w' => e = .returned (.bool true) ∧ Below w.heap.size w w' := by
  have H1 := hide hl
  have H2 := hide h
  have H3 := hide h'
  clear hl h h'
  go_enter Tryd.func6, Tryd.ntmps6
  go_wp2
  go_loopw [5] (fun i wr => ∃ k : Nat, k ≤ n ∧ i = .int .i64 k ∧ Below w.heap.size w wr) (fun i _ => n - (intOf i).toNat)
  case atStart => exact ⟨0, by omega, rfl, Below.refl _ _⟩
  case round =>
    obtain ⟨k, hk, rfl, hbr⟩ := hrel
    by_cases hlt : k < n
    · have hlen : k < l.length := by rw [H1.out]; exact hlt
      obtain ⟨t0, t1⟩ := rReading_at l k hlen
      obtain ⟨b, off, rfl, hb1', hb2', hc⟩ := H2.out.2 (by omega)
      obtain ⟨b', off', rfl, hb1'', hb2'', hc'⟩ := H3.out.2 (by omega)
      have c0 : wr.cell? ⟨b, off + k * 2, none⟩ = some (.int .i64 l[k].1) := (hbr.cell (p := ⟨b, _, none⟩) (by show b < _; omega)).trans (hc _ _ t0)
      have c1 : wr.cell? ⟨b, off + k * 2 + 1, none⟩ = some (.int .i64 l[k].2) := (hbr.cell (p := ⟨b, _, none⟩) (by show b < _; omega)).trans (hc _ _ t1)
      have d0 : wr.cell? ⟨b', off' + k * 2, none⟩ = some (.int .i64 l[k].1) := (hbr.cell (p := ⟨b', _, none⟩) (by show b' < _; omega)).trans (hc' _ _ t0)
      have d1 : wr.cell? ⟨b', off' + k * 2 + 1, none⟩ = some (.int .i64 l[k].2) := (hbr.cell (p := ⟨b', _, none⟩) (by show b' < _; omega)).trans (hc' _ _ t1)
      generalize l[k].1 = x0 at *
      generalize l[k].2 = x1 at *
      clear t0 t1 hc hc'
      go_wp2_with fail
      go_still_tail 8, (by kernel_rfl)
      go_wp2_with fail
      refine (eqReading_same _ _ _).mono ?_
      rintro e w2 ⟨rfl, hb2⟩
      go_wp2_with fail
      go_roundw
      case rel => exact ⟨k + 1, by omega, by go_num, hbr.drew.trans (hb2.mono hbr.size)⟩
      case measure => simp [intOf]; omega
    · obtain rfl : k = n := by omega
      go_wp2
      go_ret
      exact ⟨rfl, hbr⟩

set_option maxRecDepth 100000 in
set_option maxHeartbeats 1000000 in
theorem markReadingS_any (v : Value) (n lo hi : Nat) (xs : List Value) (q : Int) (hq : 0 ≤ q) (hq2 : q ≤ 100000000) (hn : n ≤ 1048576) (w : World) (h : Own w lo hi 33 2 v n xs) (hlh : lo ≤ hi) :
    Calls Tryd.prog 7 #[v, .int .i64 q] w fun e w' => e = .returned (.int .i64 (q + ((n * 2 : Nat) : Int))) ∧ Own w' lo hi 33 2 v n (marks q (n * 2)) ∧ Tch lo hi w w' := by
  obtain ⟨A, c, rfl, hnc, hcm, hrd⟩ := h.rd
  have hz : xs.length = (marks q (n * 2)).length := by rw [marks_length, h.length]
  have Hz := hide hz
  have Hh := h.2
  have ho0 := h.1
  clear hz hrd h
  go_enter Tryd.func7, Tryd.ntmps7
  go_wp2
  go_loopw [1, 5] (fun kk i wr => ∃ k : Nat, k ≤ n ∧ i = .int .i64 k ∧ kk = .int .i64 (q + ((k * 2 : Nat) : Int)) ∧ wr.ownsRow lo 33 2 (.slice A n c) n (fill (marks q (n * 2)) xs (k * 2)) ∧ Tch lo hi w wr) (fun _ i _ => n - (intOf i).toNat)
  case atStart =>
    exact ⟨0, by omega, rfl, vint (by omega), by rw [Nat.zero_mul, fill_zero]; exact ho0, Tch.refl _ _ _⟩
  case round =>
    obtain ⟨k, hk, rfl, rfl, ho, ht⟩ := hrel
    by_cases hlt : k < n
    · obtain ⟨g, cap, hv⟩ := Joins.ownsRow_form ho (by omega)
      obtain ⟨rfl, rfl⟩ : A = some ⟨g, 0, none⟩ ∧ c = cap := by injection hv with e1 e2 e3; exact ⟨e1, e3⟩
      clear hv
      have hgh : g < hi := Hh g rfl
      have hgl : lo ≤ g := (ho.lt g rfl).1
      obtain ⟨u0, hu0⟩ := fill_get1 (xs := marks q (n * 2)) (m := k * 2) (j := k * 2) Hz.out (by omega) (by rw [marks_length]; omega)
      obtain ⟨u1, hu1⟩ := fill_get1 (xs := marks q (n * 2)) (m := k * 2) (j := k * 2 + 1) Hz.out (by omega) (by rw [marks_length]; omega)
      have d0 : wr.cell? ⟨g, k * 2, none⟩ = some u0 := (ho.cellAt _ (by omega)).trans (by simpa using hu0)
      have f0 := ho.frozenAt (k * 2)
      have d1 : wr.cell? ⟨g, k * 2 + 1, none⟩ = some u1 := (ho.cellAt _ (by omega)).trans (by simpa using hu1)
      have f1 := ho.frozenAt (k * 2 + 1)
      clear hu0 hu1
      go_wp2_with fail
      go_roundw
      case rel =>
        refine ⟨k + 1, by omega, by go_num, vint (by omega), ?_, (tch_set (tch_set ht (by omega) (by omega) _ _) (by omega) (by omega) _ _)⟩
        have s := ((ho.stored (k * 2) (.int .i64 (q + ((k * 2 : Nat) : Int)))).1.stored (k * 2 + 1) (.int .i64 (q + ((k * 2 + 1 : Nat) : Int)))).1
        rw [fill_set Hz.out (marks_at q (n * 2) _ (by omega)), fill_set Hz.out (marks_at q (n * 2) _ (by omega))] at s
        rw [show (k + 1) * 2 = k * 2 + 1 + 1 by omega]
        exact own_eq s (setCell_congr (setCell_congr rfl (vint (by omega))) (vint (by omega))) rfl
      case measure => simp [intOf]; omega
    · obtain rfl : k = n := by omega
      go_wp2
      go_ret
      rw [fill_all Hz.out (by rw [marks_length])] at ho
      exact ⟨rfl, ⟨ho, Hh⟩, ht⟩

set_option maxRecDepth 100000 in
set_option maxHeartbeats 1000000 in
theorem heldReadingS_any (A : Option Addr) (n c lo hi : Nat) (q : Int) (hq : 0 ≤ q) (hq2 : q ≤ 100000000) (hn : n ≤ 1048576) (w : World) (h : Rd w lo hi 2 A n (marks q (n * 2))) :
    Calls Tryd.prog 8 #[.slice A n c, .int .i64 q] w fun e w' => e = .returned (.int .i64 (q + ((n * 2 : Nat) : Int))) ∧ w = w' := by
  have H2 := hide h
  clear h
  go_enter Tryd.func8, Tryd.ntmps8
  go_wp2
  go_loop [1, 5] (fun kk i => ∃ k : Nat, k ≤ n ∧ i = .int .i64 k ∧ kk = .int .i64 (q + ((k * 2 : Nat) : Int))) (fun _ i => n - (intOf i).toNat)
  case atStart =>
    exact ⟨0, by omega, rfl, vint (by omega)⟩
  case round =>
    obtain ⟨k, hk, rfl, rfl⟩ := hrel
    by_cases hlt : k < n
    · obtain ⟨b, off, rfl, hb1', hb2', hc⟩ := H2.out.2 (by omega)
      have c0 : w.cell? ⟨b, off + k * 2, none⟩ = some (.int .i64 (q + (k : Int) * 2)) := (hc (k * 2) _ (marks_at q (n * 2) _ (by omega))).trans (congrArg some (vint (by omega)))
      have c1 : w.cell? ⟨b, off + k * 2 + 1, none⟩ = some (.int .i64 (q + (k : Int) * 2 + 1)) := (hc (k * 2 + 1) _ (marks_at q (n * 2) _ (by omega))).trans (congrArg some (vint (by omega)))
      clear hc
      go_wp2_with fail
      go_round
      case rel => exact ⟨k + 1, by omega, by go_num, vint (by omega)⟩
      case measure => simp [intOf]; omega
    · obtain rfl : k = n := by omega
      go_wp2
      go_ret
      exact ⟨rfl, rfl⟩

end Go.Proofs.YtclfhegjfjcjeaaDoor
