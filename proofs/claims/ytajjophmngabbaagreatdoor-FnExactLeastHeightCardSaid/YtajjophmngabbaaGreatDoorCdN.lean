/-
  THE CODE OF A SITE AND AN INDEX, the program's. No condition but those that each theorem names.
-/
import Derived.Test.YtajjophmngabbaaGreatDoorSite
import Derived.IntWalk
namespace Go.Proofs.YtajjophmngabbaaGreatDoor
open Go.RowKit
set_option linter.unusedVariables false

/-- The code of a site and an index. -/
def cdN (l : List Crn) (i : Int) : Int := if siteB l = true then (if inR i 0 ((l.length : Int) - 1) = true then 0 else 2) else 1
theorem cdN_bad {l : List Crn} {i : Int} (h : siteB l = false) : cdN l i = 1 := by simp [cdN, h]
theorem cdN_far {l : List Crn} {i : Int} (h : siteB l = true) (h2 : inR i 0 ((l.length : Int) - 1) = false) : cdN l i = 2 := by simp [cdN, h, h2]
theorem cdN_ok {l : List Crn} {i : Int} (h : siteB l = true) (h2 : inR i 0 ((l.length : Int) - 1) = true) : cdN l i = 0 := by simp [cdN, h, h2]
theorem ret_int' {a b : Int} (h : a = b) : Ending.returned (.int .i64 a) = .returned (.int .i64 b) := by rw [h]

set_option maxRecDepth 100000 in
set_option maxHeartbeats 2000000 in
theorem index_is {i n : Int} (hn : 0 ≤ n) (hn2 : n ≤ 1048576) {r : Bool} (hr : inR i 0 (n - 1) = r) {w : World} :
    Calls Tryz.prog 42 #[.int .i64 i, .int .i64 n] w fun e w' => e = .returned (.bool r) ∧ w' = w := by
  have HR := hide hr
  clear hr
  go_enter Tryz.func42, Tryz.ntmps42
  go_wp2_with fail
  refine (within_is HR.out).mono ?_
  rintro e w2 ⟨rfl, rfl⟩
  go_wp2_with fail
  go_ret
  exact ⟨rfl, rfl⟩

set_option maxRecDepth 100000 in
set_option maxHeartbeats 2000000 in
theorem craneCode_any (A : Option Addr) (n c lo hi : Nat) (own : Bool) (l : List Crn) (hn : n ≤ 1048576) (hch : ∀ p ∈ l, p.ch.length ≤ 1048576) (hnm : ∀ p ∈ l, p.nm.size ≤ maxLen) (w : World) (h : RdC w lo hi own A n l) (hhi : hi ≤ w.heap.size) (hnc : n ≤ c) (i : Int) :
    Calls Tryz.prog 28 #[.agg #[.slice A n c], .int .i64 i] w fun e w' => e = .returned (.int .i64 (cdN l i)) ∧ Below w.heap.size w w' := by
  have HCH := hide hch
  have HNM := hide hnm
  have HLEN := hide h.length
  have HR := hide h
  clear hch hnm h
  obtain ⟨W0, hW0⟩ : ∃ W0 : World, (w.alloc (.cells #[.slice A n c] 30)) = W0 := ⟨_, rfl⟩
  have hb0 : Below w.heap.size w W0 := by rw [← hW0]; exact (Below.refl _ _).alloc (Nat.le_refl _) _
  have hz0 : W0.heap.size = w.heap.size + 1 := by rw [← hW0]; simp
  have HC0 : Hid (W0.cell? ⟨w.heap.size, 0, none⟩ = some (.slice A n c)) := hide (by rw [← hW0]; exact new_cell _ _ _ 0)
  have HW0 := hide hW0
  have HR0 := hide (HR.out.below hb0 hhi)
  clear hW0 HR
  obtain ⟨r, hr⟩ : ∃ r, inR i 0 ((n : Int) - 1) = r := ⟨_, rfl⟩
  have HI := hide hr
  have hr2 : inR i 0 ((l.length : Int) - 1) = r := by rw [HLEN.out]; exact hr
  have HI2 := hide hr2
  clear hr hr2
  go_enter Tryz.func28, Tryz.ntmps28
  go_wp2_with fail
  rw [HW0.out]
  refine (implValidSite_any A n c lo hi own l hn HCH.out HNM.out _ HR0.out (by omega) hnc).mono ?_
  rintro e w1 ⟨rfl, hb1⟩
  have hbz := hb0.trans (hb1.mono (by omega))
  have q0 := (hb1.cell (p := ⟨w.heap.size, 0, none⟩) (by show w.heap.size < _; omega)).trans HC0.out
  clear hb0 hb1 HW0
  cases e1 : siteB l
  case false =>
    have E := hide (cdN_bad (i := i) e1)
    go_wp2_with fail
    go_ret
    exact ⟨ret_int' E.out.symm, hbz⟩
  have E1 := hide e1
  clear e1
  go_wp2_with fail
  refine (index_is (by omega) (by omega) HI.out).mono ?_
  rintro e w2 ⟨rfl, rfl⟩
  cases r
  case false =>
    have E := hide (cdN_far E1.out HI2.out)
    go_wp2_with fail
    go_ret
    exact ⟨ret_int' E.out.symm, hbz⟩
  have E := hide (cdN_ok E1.out HI2.out)
  go_wp2_with fail
  go_ret
  exact ⟨ret_int' E.out.symm, hbz⟩

end Go.Proofs.YtajjophmngabbaaGreatDoor
