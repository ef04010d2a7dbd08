/-
  StepsFrom: the reference's and the program's. No condition but those that each theorem names.
-/
import Derived.Test.YtnbahmjimnhfbaaStC
import Derived.Test.YtnbahmjimnhfbaaNext
namespace Go.Proofs.Ytnbahmjimnhfbaa
open Go.RowKit
set_option linter.unusedVariables false

/-- The states that StepsFrom answers. -/
def stL (T : List (List Bool)) (l : List Int) : List (List Int) := if codeL T [l] = 0 then (nxt T (l.getD 0 0) (l.getD 1 0)).map pr2 else []
theorem stL_len (T : List (List Bool)) (l : List Int) : (stL T l).length ≤ 576 := by
  unfold stL; split
  · rw [List.length_map]; exact nxt_len _ _ _
  · simp
theorem stL_row {T : List (List Bool)} {l : List Int} {r : List Int} (h : r ∈ stL T l) : r.length = 2 := by
  unfold stL at h; split at h
  · obtain ⟨p, _, rfl⟩ := List.mem_map.1 h; rfl
  · cases h
theorem drew_size (w : World) : w.drew.heap.size = w.heap.size := rfl

set_option maxRecDepth 100000 in
set_option maxHeartbeats 4000000 in
theorem implStepsFrom_any (A A1 : Option Addr) (n c lo hi n1 c1 l1 h1 : Nat) (T : List (List Bool)) (l : List Int) (hm : n ≤ maxLen) (hl : l.length = n1) (hm1 : n1 ≤ maxLen) (w : World) (h : RdSS w lo hi A n (rrBool T)) (hhi : hi ≤ w.heap.size) (hr : Rd w l1 h1 1 A1 n1 (rInt64 l)) (hh1 : h1 ≤ w.heap.size) :
    Calls Try.prog 25 #[.slice A n c, .slice A1 n1 c1] w fun e w' => ∃ v, e = .returned (.tuple #[v, .int .i64 (codeL T [l])]) ∧ OwnSS w' w.heap.size w'.heap.size 25 2 v (stL T l).length (rrInt64 (stL T l)) ∧ Below w.heap.size w w' := by
  have H2 := hide h
  have HR := hide hr
  have HL := hide hl
  clear h hr hl
  obtain ⟨cc, hcc⟩ : ∃ cc, codeL T [l] = cc := ⟨_, rfl⟩
  have HC := hide hcc
  rw [hcc]
  clear hcc
  by_cases hz : cc = 0
  · subst hz
    have HV : Hid (stL T l = (nxt T (l.getD 0 0) (l.getD 1 0)).map pr2) := hide (by unfold stL; rw [if_pos HC.out])
    have HVN : Hid ((stL T l).length = (nxt T (l.getD 0 0) (l.getD 1 0)).length) := hide (by rw [HV.out, List.length_map])
    obtain ⟨e0, e1⟩ := codeL_zero HC.out
    obtain ⟨e2, _⟩ := e1 l (by simp)
    have HO := hide e0
    clear e0 e1
    go_enter Try.func25, Try.ntmps25
    go_wp2_with fail
    have hba : Below w.heap.size w (w.alloc (.cells #[.slice A1 n1 c1] 25)) := (Below.refl _ _).alloc (Nat.le_refl _) _
    have hsa := hba.size
    refine (stateCode_any A _ n c lo hi 1 1 0 (w.heap.size + 1) T [l] hm (by omega) _ (H2.out.below hba hhi) (by omega) (rdss_lit1 _ HL.out hm1 (HR.out.mono (Nat.zero_le _) (Nat.le_refl _)) hh1) (by simp)).mono ?_
    rintro e w1 ⟨rfl, hb1⟩
    rw [HC.out]
    have hB1 := hba.trans (hb1.mono hsa)
    have hs1 := hB1.size
    have HS1 := hide hs1
    obtain ⟨x, y, rfl, hx0, hx1, hy0, hy1⟩ := stV_two e2
    obtain rfl : n1 = 2 := HL.out.symm
    clear e2
    go_wp2_with fail
    refine (stepsFrom_any A n c lo hi A1 c1 l1 h1 T HO.out x y (by omega) (by omega) (by omega) (by omega) _ (H2.out.below hB1 hhi) (by omega) (HR.out.below hB1 hh1) (by omega)).mono ?_
    rintro e w2 ⟨v, rfl, hw, hb2⟩
    have HW := hide hw
    clear hw
    go_wp2_with fail
    go_ret2
    refine ⟨v, rfl, ?_, hB1.trans (hb2.mono HS1.out)⟩
    rw [HVN.out, HV.out]
    exact HW.out.mono HS1.out (Nat.le_refl _)
  · have hz2 : (cc == 0) = false := by simpa using hz
    have hz3 : (cc != 0) = true := by simpa using hz
    have HV : Hid (stL T l = []) := hide (by unfold stL; rw [HC.out, if_neg hz])
    go_enter Try.func25, Try.ntmps25
    go_wp2_with fail
    have hba : Below w.heap.size w (w.alloc (.cells #[.slice A1 n1 c1] 25)) := (Below.refl _ _).alloc (Nat.le_refl _) _
    have hsa := hba.size
    refine (stateCode_any A _ n c lo hi 1 1 0 (w.heap.size + 1) T [l] hm (by omega) _ (H2.out.below hba hhi) (by omega) (rdss_lit1 _ HL.out hm1 (HR.out.mono (Nat.zero_le _) (Nat.le_refl _)) hh1) (by simp)).mono ?_
    rintro e w1 ⟨rfl, hb1⟩
    rw [HC.out]
    have hB1 := hba.trans (hb1.mono hsa)
    have hs1 := hB1.size
    go_wp2_with fail
    go_ret2
    refine ⟨.slice none 0 0, rfl, ?_, hB1⟩
    rw [HV.out]
    exact OwnSS.nil_ _ _ _ _ _

end Go.Proofs.Ytnbahmjimnhfbaa
