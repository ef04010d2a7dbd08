/-
  CONTRACTS of the laws' helpers on a slice of charts: copying, comparing, marking. No condition but those that each theorem names.
-/
import Derived.Test.YtajjophmngabbaaGreatDoorMem
namespace Go.Proofs.YtajjophmngabbaaGreatDoor
open Go.RowKit
set_option linter.unusedVariables false

/-- The cells of one element, and of a list of elements. -/
def cChartStep (p : Int × Int) : List Value := [.int .i64 p.1, .int .i64 p.2]
def rChartStep (l : List (Int × Int)) : List Value := rows cChartStep l
theorem rChartStep_length (l : List (Int × Int)) : (rChartStep l).length = l.length * 2 := rows_length (f := cChartStep) (fun _ => rfl) l
theorem rChartStep_at (l : List (Int × Int)) (k : Nat) (h : k < l.length) : (rChartStep l)[k * 2]? = some (.int .i64 l[k].1) ∧ (rChartStep l)[k * 2 + 1]? = some (.int .i64 l[k].2) := by
  have h0 := fun j (hj : j < 2) => rows_at (f := cChartStep) (m := 2) (fun _ => rfl) l k h j hj
  exact ⟨h0 0 (by omega), h0 1 (by omega)⟩
theorem infoChartStep : (Tryz.prog.info? 93).map (fun i => (i.zero, i.size, i.bytes)) = some (some (.agg #[.int .i64 0, .int .i64 0]), 2, 16) := by kernel_rfl

set_option maxRecDepth 100000 in
set_option maxHeartbeats 400000 in
theorem szChartStepS_ok (A : Option Addr) (n c : Nat) (q : Int) (hq : (n : Int) ≤ q) (hq2 : q ≤ 1048576) (w : World) :
    Calls Tryz.prog 35 #[.slice A n c, .int .i64 q] w fun e w' => e = .returned (.int .i64 (q - n)) ∧ w = w' := by
  go_enter Tryz.func35, Tryz.ntmps35
  go_wp2
  go_ret
  exact ⟨rfl, rfl⟩

set_option maxRecDepth 100000 in
set_option maxHeartbeats 400000 in
theorem szChartStepS_big (A : Option Addr) (n c : Nat) (q : Int) (hq : q < (n : Int)) (hq0 : 0 ≤ q) (hq2 : q ≤ 1048576) (hm : n ≤ maxLen) (w : World) :
    Calls Tryz.prog 35 #[.slice A n c, .int .i64 q] w fun e w' => e = .returned (.int .i64 (-1)) ∧ w = w' := by
  unfold maxLen at hm
  go_enter Tryz.func35, Tryz.ntmps35
  go_wp2
  go_ret
  exact ⟨rfl, rfl⟩

set_option maxRecDepth 100000 in
set_option maxHeartbeats 400000 in
theorem toChartStep_any (x0 : Int) (x1 : Int) (w : World) :
    Calls Tryz.prog 55 #[.agg #[.int .i64 x0, .int .i64 x1]] w fun e w' => e = .returned (.agg #[.int .i64 x0, .int .i64 x1]) ∧ Below w.heap.size w w' := by
  go_enter Tryz.func55, Tryz.ntmps55
  go_wp2
  refine bodyPost_ret (v := .agg #[.int .i64 x0, .int .i64 x1]) (by simp [results, Tryz.results55, go_sem]) rfl ⟨rfl, ?_⟩
  repeat (first | exact Below.refl _ _ | refine Below.drew ?_ | refine Below.alloc ?_ (by first | omega | (simp; done) | (simp; omega) | (simp at *; omega)) _ | refine Below.setCell ?_ (by first | omega | (simp; done) | (simp; omega) | (simp at *; omega)) _ | refine Below.trans ?_ (Below.mono (by assumption) (by first | omega | (simp; done) | (simp; omega) | (simp at *; omega))))

set_option maxRecDepth 100000 in
set_option maxHeartbeats 1000000 in
theorem toChartStepS_any (A : Option Addr) (n c lo hi : Nat) (l : List (Int × Int)) (hn : n ≤ 1048576) (w : World) (hl : l.length = n) (h : Rd w lo hi 2 A n (rChartStep l)) (hhi : hi ≤ w.heap.size) :
    Calls Tryz.prog 40 #[.slice A n c] w fun e w' => ∃ v, e = .returned v ∧ Own w' w.heap.size w'.heap.size 93 2 v n (rChartStep l) ∧ Below w.heap.size w w' := by
  obtain ⟨i0, hi0, hz0, hz1, hz2⟩ := info_parts infoChartStep
  go_enter Tryz.func40, Tryz.ntmps40
  go_wp2_with (at_make; refine wpList_make_full _ rfl (.tmp 6) (.tmp 6) 43 rfl w.heap.size 93 i0 (.agg #[.int .i64 0, .int .i64 0]) 2 Tryz.underlying43 hi0 hz0 hz1 .i64 .i64 _ _ n rfl rfl rfl rfl (by rw [hz2]; omega) (by unfold maxLen; omega) (Nat.le_refl _) ?_; intro w1 hown hg)
  clear hi0 hz0 hz1 hz2
  have H1 := hide hl
  have H2 := hide h
  clear hl h
  have hb1 : Below w.heap.size w w1 := (Below.refl _ _).grown hg (Nat.le_refl _) (by simp)
  have hzl : (madeCells (Value.cells (.agg #[.int .i64 0, .int .i64 0])) (n * 2)).toList.length = (rChartStep l).length := by rw [hown.1, rChartStep_length, H1.out]
  generalize (madeCells (Value.cells (.agg #[.int .i64 0, .int .i64 0])) (n * 2)).toList = zs at *
  have Hz := hide hzl
  clear hzl
  go_loopw [4] (fun i wr => ∃ k : Nat, k ≤ n ∧ i = .int .i64 k ∧ wr.ownsRow w.heap.size 93 2 (.slice (some ⟨w.heap.size, 0, none⟩) n n) n (fill (rChartStep l) zs (k * 2)) ∧ Below w.heap.size w wr) (fun i _ => n - (intOf i).toNat)
  case atStart =>
    exact ⟨0, by omega, rfl, by rw [Nat.zero_mul, fill_zero]; exact hown, hb1⟩
  case round =>
    obtain ⟨k, hk, rfl, ho, hbr⟩ := hrel
    by_cases hlt : k < n
    · have hlen : k < l.length := by rw [H1.out]; exact hlt
      obtain ⟨t0, t1⟩ := rChartStep_at l k hlen
      obtain ⟨b, off, rfl, hb1', hb2', hc⟩ := H2.out.2 (by omega)
      have c0 : wr.cell? ⟨b, off + k * 2, none⟩ = some (.int .i64 l[k].1) := (hbr.cell (p := ⟨b, _, none⟩) (by show b < _; omega)).trans (hc _ _ t0)
      have c1 : wr.cell? ⟨b, off + k * 2 + 1, none⟩ = some (.int .i64 l[k].2) := (hbr.cell (p := ⟨b, _, none⟩) (by show b < _; omega)).trans (hc _ _ t1)
      generalize l[k].1 = x0 at *
      generalize l[k].2 = x1 at *
      have T0 := hide t0
      clear t0
      have T1 := hide t1
      clear t1
      clear hc
      go_wp2_with fail
      refine (toChartStep_any _ _ _).mono ?_
      rintro e w2 ⟨rfl, hb2⟩
      have ho2 := owns_below ho hb2
      obtain ⟨u0, hu0⟩ := fill_get1 (m := k * 2) (j := k * 2) Hz.out (by omega) (by rw [rChartStep_length]; omega)
      obtain ⟨u1, hu1⟩ := fill_get1 (m := k * 2) (j := k * 2 + 1) Hz.out (by omega) (by rw [rChartStep_length]; omega)
      have d0 : w2.cell? ⟨w.heap.size, k * 2, none⟩ = some u0 := (ho2.cellAt _ (by omega)).trans (by simpa using hu0)
      have f0 := ho2.frozenAt (k * 2)
      have d1 : w2.cell? ⟨w.heap.size, k * 2 + 1, none⟩ = some u1 := (ho2.cellAt _ (by omega)).trans (by simpa using hu1)
      have f1 := ho2.frozenAt (k * 2 + 1)
      clear hu0 hu1
      go_wp2_with fail
      go_roundw
      case rel =>
        refine ⟨k + 1, by omega, by go_num, ?_, (((hbr.trans (hb2.mono hbr.size)).setCell (Nat.le_refl _) _).setCell (Nat.le_refl _) _)⟩
        have s := ((ho2.stored (k * 2) (.int .i64 x0)).1.stored (k * 2 + 1) (.int .i64 x1)).1
        rw [fill_set Hz.out T0.out, fill_set Hz.out T1.out] at s
        rw [show (k + 1) * 2 = k * 2 + 1 + 1 by omega]
        first | exact s | simpa using s
      case measure => simp [intOf]; omega
    · obtain rfl : k = n := by omega
      go_wp2
      go_ret
      refine ⟨_, rfl, Own.of_owns ?_, hbr⟩
      rw [fill_all Hz.out (by rw [rChartStep_length, H1.out])] at ho
      exact ho

set_option maxRecDepth 100000 in
set_option maxHeartbeats 400000 in
theorem eqChartStep_same (x0 : Int) (x1 : Int) (w : World) :
    Calls Tryz.prog 64 #[.agg #[.int .i64 x0, .int .i64 x1], .agg #[.int .i64 x0, .int .i64 x1]] w fun e w' => e = .returned (.bool true) ∧ Below w.heap.size w w' := by
  go_enter Tryz.func64, Tryz.ntmps64
  go_wp2
  go_ret
  refine ⟨rfl, ?_⟩
  repeat (first | exact Below.refl _ _ | refine Below.drew ?_ | refine Below.alloc ?_ (by first | omega | (simp; done) | (simp; omega) | (simp at *; omega)) _ | refine Below.setCell ?_ (by first | omega | (simp; done) | (simp; omega) | (simp at *; omega)) _ | refine Below.trans ?_ (Below.mono (by assumption) (by first | omega | (simp; done) | (simp; omega) | (simp at *; omega))))

set_option maxRecDepth 100000 in
set_option maxHeartbeats 1000000 in
theorem eqChartStepS_same (A A' : Option Addr) (n c c' lo hi lo' hi' : Nat) (l : List (Int × Int)) (hn : n ≤ 1048576) (w : World) (hl : l.length = n) (h : Rd w lo hi 2 A n (rChartStep l)) (h' : Rd w lo' hi' 2 A' n (rChartStep l)) (hhi : hi ≤ w.heap.size) (hhi' : hi' ≤ w.heap.size) :
    Calls Tryz.prog 48 #[.slice A n c, .slice A' n c'] w fun e w' => e = .returned (.bool true) ∧ Below w.heap.size w w' := by
  have H1 := hide hl
  have H2 := hide h
  have H3 := hide h'
  clear hl h h'
  go_enter Tryz.func48, Tryz.ntmps48
  go_wp2
  go_loopw [5] (fun i wr => ∃ k : Nat, k ≤ n ∧ i = .int .i64 k ∧ Below w.heap.size w wr) (fun i _ => n - (intOf i).toNat)
  case atStart => exact ⟨0, by omega, rfl, Below.refl _ _⟩
  case round =>
    obtain ⟨k, hk, rfl, hbr⟩ := hrel
    by_cases hlt : k < n
    · have hlen : k < l.length := by rw [H1.out]; exact hlt
      obtain ⟨t0, t1⟩ := rChartStep_at l k hlen
      obtain ⟨b, off, rfl, hb1', hb2', hc⟩ := H2.out.2 (by omega)
      obtain ⟨b', off', rfl, hb1'', hb2'', hc'⟩ := H3.out.2 (by omega)
      have c0 : wr.cell? ⟨b, off + k * 2, none⟩ = some (.int .i64 l[k].1) := (hbr.cell (p := ⟨b, _, none⟩) (by show b < _; omega)).trans (hc _ _ t0)
      have c1 : wr.cell? ⟨b, off + k * 2 + 1, none⟩ = some (.int .i64 l[k].2) := (hbr.cell (p := ⟨b, _, none⟩) (by show b < _; omega)).trans (hc _ _ t1)
      have d0 : wr.cell? ⟨b', off' + k * 2, none⟩ = some (.int .i64 l[k].1) := (hbr.cell (p := ⟨b', _, none⟩) (by show b' < _; omega)).trans (hc' _ _ t0)
      have d1 : wr.cell? ⟨b', off' + k * 2 + 1, none⟩ = some (.int .i64 l[k].2) := (hbr.cell (p := ⟨b', _, none⟩) (by show b' < _; omega)).trans (hc' _ _ t1)
      generalize l[k].1 = x0 at *
      generalize l[k].2 = x1 at *
      clear t0 t1 hc hc'
      go_wp2_with fail
      go_still_tail 8, (by kernel_rfl)
      go_wp2_with fail
      refine (eqChartStep_same _ _ _).mono ?_
      rintro e w2 ⟨rfl, hb2⟩
      go_wp2_with fail
      go_roundw
      case rel => exact ⟨k + 1, by omega, by go_num, hbr.drew.trans (hb2.mono hbr.size)⟩
      case measure => simp [intOf]; omega
    · obtain rfl : k = n := by omega
      go_wp2
      go_ret
      exact ⟨rfl, hbr⟩

end Go.Proofs.YtajjophmngabbaaGreatDoor
