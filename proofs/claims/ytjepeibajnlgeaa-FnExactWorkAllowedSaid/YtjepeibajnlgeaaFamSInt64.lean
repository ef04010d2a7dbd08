/-
  CONTRACTS of the laws' helpers on a slice of slices: copying, comparing, marking. No condition but those that each theorem names.
-/
import Derived.Test.YtjepeibajnlgeaaRows2
import Derived.Test.YtjepeibajnlgeaaFamInt64
namespace Go.Proofs.Ytjepeibajnlgeaa
open Go.RowKit
set_option linter.unusedVariables false

/-- The rows of a list of lists. -/
def rrInt64 (l : List (List Int)) : List (List Value) := l.map rInt64
theorem rrInt64_at (l : List (List Int)) (k : Nat) : (rrInt64 l).getD k [] = rInt64 (l.getD k []) := by
  unfold rrInt64
  rcases Nat.lt_or_ge k l.length with h | h
  · simp [List.getD, h]
  · simp [List.getD, h]; rfl
theorem rrInt64_len (l : List (List Int)) : (rrInt64 l).length = l.length := by simp [rrInt64]
theorem rInt64_len1 (l : List Int) : (rInt64 l).length = l.length := by rw [rInt64_length]; omega
theorem infoSInt64 : (Try.prog.info? 61).map (fun i => (i.zero, i.size, i.bytes)) = some (some (.slice none 0 0), 1, 24) := by kernel_rfl

set_option maxRecDepth 100000 in
set_option maxHeartbeats 1000000 in
theorem eqInt64SS_same (A A' : Option Addr) (n c c' lo hi lo' hi' : Nat) (l : List (List Int)) (hn : n ≤ 1048576) (hrow : ∀ r ∈ l, r.length ≤ 1048576) (w : World) (h : RdSS w lo hi A n (rrInt64 l)) (h' : RdSS w lo' hi' A' n (rrInt64 l)) (hhi : hi ≤ w.heap.size) (hhi' : hi' ≤ w.heap.size) :
    Calls Try.prog 28 #[.slice A n c, .slice A' n c'] w fun e w' => e = .returned (.bool true) ∧ Below w.heap.size w w' := by
  have H1 := hide h.length
  have H2 := hide h
  have H3 := hide h'
  have H4 := hide hrow
  clear h h' hrow
  go_enter Try.func28, Try.ntmps28
  go_wp2
  go_loopw [5] (fun i wr => ∃ k : Nat, k ≤ n ∧ i = .int .i64 k ∧ Below w.heap.size w wr) (fun i _ => n - (intOf i).toNat)
  case atStart => exact ⟨0, by omega, rfl, Below.refl _ _⟩
  case round =>
    obtain ⟨k, hk, rfl, hbr⟩ := hrel
    by_cases hlt : k < n
    · obtain ⟨b, off, Ai, ni, ci, rfl, hb1, hb2, hc, hnm, hni, hr⟩ := H2.out.at_ hlt
      obtain ⟨b', off', Ai', ni', ci', rfl, hb1', hb2', hc', hnm', hni', hr'⟩ := H3.out.at_ hlt
      obtain rfl : ni = ni' := by rw [hni, hni']
      have c0 : wr.cell? ⟨b, off + k, none⟩ = some (.slice Ai ni ci) := (hbr.cell (p := ⟨b, _, none⟩) (by show b < _; omega)).trans hc
      have d0 : wr.cell? ⟨b', off' + k, none⟩ = some (.slice Ai' ni ci') := (hbr.cell (p := ⟨b', _, none⟩) (by show b' < _; omega)).trans hc'
      rw [rrInt64_at] at hr hr' hni
      have hnl : (l.getD k []).length = ni := by rw [hni, rInt64_len1]
      have hn2 : ni ≤ 1048576 := by
        rw [← hnl]
        have hkl : k < l.length := by have := H1.out; rw [rrInt64_len] at this; omega
        rw [show l.getD k [] = l[k] by simp [List.getD, hkl]]
        exact H4.out _ (List.getElem_mem hkl)
      have HNL := hide hnl
      have HR := hide (hr.below hbr hhi)
      have HR' := hide (hr'.below hbr hhi')
      have hsz := hbr.size
      clear hc hc' hr hr' hni hnl hni'
      go_wp2_with fail
      go_still_tail 8, (by kernel_rfl)
      go_wp2_with fail
      refine (eqInt64S_same Ai Ai' ni ci ci' lo hi lo' hi' (l.getD k []) hn2 _ HNL.out HR.out.drew HR'.out.drew (by simp; omega) (by simp; omega)).mono ?_
      rintro e w2 ⟨rfl, hb2⟩
      go_wp2_with fail
      go_roundw
      case rel => exact ⟨k + 1, by omega, by go_num, hbr.drew.trans (hb2.mono (by simpa using hsz))⟩
      case measure => simp [intOf]; omega
    · obtain rfl : k = n := by omega
      go_wp2
      go_ret
      exact ⟨rfl, hbr⟩

end Go.Proofs.Ytjepeibajnlgeaa
