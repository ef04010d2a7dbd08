/-
  StepsFrom: the reference's and the program's. No condition but those that each theorem names.
-/
import Derived.Test.YtnbahmjimnhfbaaDoorStC
import Derived.Test.YtnbahmjimnhfbaaDoorNext
namespace Go.Proofs.YtnbahmjimnhfbaaDoor
open Go.RowKit
set_option linter.unusedVariables false

/-- The states that StepsFrom answers. -/
def stL (T : List (List Bool)) (l : List Int) : List (List Int) := if codeL T [l] = 0 then (nxt T (l.getD 0 0) (l.getD 1 0)).map pr2 else []
theorem stL_len (T : List (List Bool)) (l : List Int) : (stL T l).length ≤ 576 := by
  unfold stL; split
  · rw [List.length_map]; exact nxt_len _ _ _
  · simp
theorem stL_row {T : List (List Bool)} {l : List Int} {r : List Int} (h : r ∈ stL T l) : r.length = 2 := by
  unfold stL at h; split at h
  · obtain ⟨p, _, rfl⟩ := List.mem_map.1 h; rfl
  · cases h
theorem drew_size (w : World) : w.drew.heap.size = w.heap.size := rfl

set_option maxRecDepth 100000 in
set_option maxHeartbeats 4000000 in
theorem specStepsFrom_any (A A1 : Option Addr) (n c lo hi n1 c1 l1 h1 : Nat) (T : List (List Bool)) (l : List Int) (hm : n ≤ maxLen) (hl : l.length = n1) (hm1 : n1 ≤ maxLen) (w : World) (h : RdSS w lo hi A n (rrBool T)) (hhi : hi ≤ w.heap.size) (hr : Rd w l1 h1 1 A1 n1 (rInt64 l)) (hh1 : h1 ≤ w.heap.size) :
    Calls Tryd.prog 14 #[.slice A n c, .slice A1 n1 c1] w fun e w' => ∃ v, e = .returned (.tuple #[v, .int .i64 (codeL T [l])]) ∧ OwnSS w' w.heap.size w'.heap.size 27 2 v (stL T l).length (rrInt64 (stL T l)) ∧ Below w.heap.size w w' := by
  have H2 := hide h
  have HR := hide hr
  have HL := hide hl
  clear h hr hl
  obtain ⟨cc, hcc⟩ : ∃ cc, codeL T [l] = cc := ⟨_, rfl⟩
  have HC := hide hcc
  rw [hcc]
  clear hcc
  by_cases hz : cc = 0
  · subst hz
    have HV : Hid (stL T l = (nxt T (l.getD 0 0) (l.getD 1 0)).map pr2) := hide (by unfold stL; rw [if_pos HC.out])
    have HVN : Hid ((stL T l).length = (nxt T (l.getD 0 0) (l.getD 1 0)).length) := hide (by rw [HV.out, List.length_map])
    obtain ⟨e0, e1⟩ := codeL_zero HC.out
    obtain ⟨e2, _⟩ := e1 l (by simp)
    have HO := hide e0
    clear e0 e1
    go_enter Tryd.func14, Tryd.ntmps14
    go_wp2_with fail
    refine (l17Code_any A A1 n c lo hi n1 c1 l1 h1 T l hm HL.out hm1 _ H2.out HR.out).mono ?_
    rintro e w1 ⟨rfl, hb1⟩
    rw [HC.out]
    have hs1 := hb1.size
    have hB1 := hb1
    have HS1 := hide hs1
    replace H2 := hide (H2.out.below hB1 hhi)
    replace HR := hide (HR.out.below hB1 hh1)
    obtain ⟨x, y, rfl, hx0, hx1, hy0, hy1⟩ := stV_two e2
    obtain rfl : n1 = 2 := HL.out.symm
    obtain ⟨bs, os, rfl, _, hbs, s0, s1⟩ := st_cells HR.out
    clear e2
    go_wp2_with fail
    go_still_tail 7, (by kernel_rfl)
    go_wp2_with fail
    refine (l17Next_any A n c lo hi T HO.out x y (by omega) (by omega) (by omega) (by omega) _ (show RdSS w1.drew lo hi A n (rrBool T) from H2.out) (by rw [drew_size]; omega)).mono ?_
    rintro e w2 ⟨v, rfl, hw, hb2⟩
    have HW := hide hw
    clear hw
    go_wp2_with fail
    go_ret2
    refine ⟨v, rfl, ?_, hB1.trans (Below.trans (show Below w.heap.size w1 w1.drew from (Joins.below_draws _ _ 1)) (hb2.mono HS1.out))⟩
    rw [HVN.out, HV.out]
    exact HW.out.mono HS1.out (Nat.le_refl _)
  · have hz2 : (cc == 0) = false := by simpa using hz
    have hz3 : (cc != 0) = true := by simpa using hz
    have HV : Hid (stL T l = []) := hide (by unfold stL; rw [HC.out, if_neg hz])
    go_enter Tryd.func14, Tryd.ntmps14
    go_wp2_with fail
    refine (l17Code_any A A1 n c lo hi n1 c1 l1 h1 T l hm HL.out hm1 _ H2.out HR.out).mono ?_
    rintro e w1 ⟨rfl, hb1⟩
    rw [HC.out]
    have hs1 := hb1.size
    have hB1 := hb1
    go_wp2_with fail
    go_ret2
    refine ⟨.slice none 0 0, rfl, ?_, hB1⟩
    rw [HV.out]
    exact OwnSS.nil_ _ _ _ _ _

end Go.Proofs.YtnbahmjimnhfbaaDoor
