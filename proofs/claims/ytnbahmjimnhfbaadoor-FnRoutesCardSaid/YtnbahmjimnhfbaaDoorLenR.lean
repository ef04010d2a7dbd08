/-
  LengthsFrom and CountReached: the reference's and the program's. No condition but those that each theorem names.
-/
import Derived.Test.YtnbahmjimnhfbaaDoorStC
import Derived.Test.YtnbahmjimnhfbaaDoorLenS
import Derived.Test.YtnbahmjimnhfbaaDoorLenI
namespace Go.Proofs.YtnbahmjimnhfbaaDoor
open Go.RowKit
set_option linter.unusedVariables false

/-- The lengths that LengthsFrom answers. -/
def lnL (T : List (List Bool)) (l : List Int) : List (List Int) := if codeL T [l] = 0 then lens T (l.getD 0 0, l.getD 1 0) else []
theorem codeL_one {T : List (List Bool)} {l : List Int} (h : codeL T [l] = 0) : okT T = true ∧ ∃ x y, l = [x, y] ∧ 0 ≤ x ∧ x ≤ 23 ∧ 0 ≤ y ∧ y ≤ 23 := by
  obtain ⟨h1, h2⟩ := codeL_zero h
  exact ⟨h1, stV_two (h2 l (by simp)).1⟩
theorem lnL_len (T : List (List Bool)) (l : List Int) : (lnL T l).length ≤ 24 := by
  unfold lnL; split
  · rename_i h
    obtain ⟨_, x, y, rfl, a, b, c, d⟩ := codeL_one h
    exact Nat.le_of_eq (lens_ok T (p := (x, y)) ⟨⟨a, b⟩, c, d⟩).1
  · simp
theorem rows_okD {D : List (List Int)} (ok : OkD D) {r : List Int} (h : r ∈ D) : r.length = 24 := by
  obtain ⟨i, hi, rfl⟩ := List.mem_iff_getElem.1 h
  have := ok.2 i (by have := ok.1; omega)
  rwa [show D.getD i [] = D[i] by simp [List.getD, hi]] at this
theorem lnL_row {T : List (List Bool)} {l : List Int} {r : List Int} (h : r ∈ lnL T l) : r.length ≤ 24 := by
  unfold lnL at h; split at h
  · rename_i h0
    obtain ⟨_, x, y, rfl, a, b, c, d⟩ := codeL_one h0
    exact Nat.le_of_eq (rows_okD (lens_ok T (p := ([x, y].getD 0 0, [x, y].getD 1 0)) ⟨⟨a, b⟩, c, d⟩) h)
  · cases h
theorem OwnSS.cast {w : World} {lo hi n m : Nat} {T E : TypeId} {v : Value} {rs : List (List Value)} (h : OwnSS w lo hi T E v n rs) (e : n = m) : OwnSS w lo hi T E v m rs := e ▸ h
/-- How many of the first j entries of a row are known. -/
def cntIn (D : List (List Int)) (a : Nat) : Nat → Nat
  | 0 => 0
  | j + 1 => cntIn D a j + (if dget D a j < 0 then 0 else 1)
def cntTo (D : List (List Int)) : Nat → Nat
  | 0 => 0
  | k + 1 => cntTo D k + cntIn D k 24
theorem cntIn_le (D : List (List Int)) (a j : Nat) : cntIn D a j ≤ j := by
  induction j with
  | zero => exact Nat.le_refl _
  | succ j ih => unfold cntIn; split <;> omega
theorem cntTo_le (D : List (List Int)) (k : Nat) : cntTo D k ≤ k * 24 := by
  induction k with
  | zero => exact Nat.le_refl _
  | succ k ih => unfold cntTo; have := cntIn_le D k 24; omega
/-- What CountReached answers. -/
def crcP (T : List (List Bool)) (l : List Int) : Int × Int := if codeL T [l] = 0 then (cntTo (lens T (l.getD 0 0, l.getD 1 0)) 24, 0) else (0, codeL T [l])
theorem ret_pr3 {a b : Int} {p : Int × Int} (h : p = (a, b)) : Ending.returned (.tuple #[.int .i64 a, .int .i64 b]) = .returned (.tuple #[.int .i64 p.1, .int .i64 p.2]) := by rw [h]

set_option maxRecDepth 100000 in
set_option maxHeartbeats 8000000 in
theorem implLengthsFrom_any (A A1 : Option Addr) (n c lo hi n1 c1 l1 h1 : Nat) (T : List (List Bool)) (l : List Int) (hm : n ≤ maxLen) (hl : l.length = n1) (hm1 : n1 ≤ maxLen) (w : World) (h : RdSS w lo hi A n (rrBool T)) (hhi : hi ≤ w.heap.size) (hr : Rd w l1 h1 1 A1 n1 (rInt64 l)) (hh1 : h1 ≤ w.heap.size) :
    Calls Tryd.prog 13 #[.slice A n c, .slice A1 n1 c1] w fun e w' => ∃ v, e = .returned (.tuple #[v, .int .i64 (codeL T [l])]) ∧ OwnSS w' w.heap.size w'.heap.size 27 2 v (lnL T l).length (rrInt64 (lnL T l)) ∧ Below w.heap.size w w' := by
  have H2 := hide h
  have HR := hide hr
  have HL := hide hl
  clear h hr hl
  obtain ⟨cc, hcc⟩ : ∃ cc, codeL T [l] = cc := ⟨_, rfl⟩
  have HC := hide hcc
  rw [hcc]
  clear hcc
  by_cases hz : cc = 0
  · subst hz
    have HV : Hid (lnL T l = lens T (l.getD 0 0, l.getD 1 0)) := hide (by unfold lnL; rw [if_pos HC.out])
    go_enter Tryd.func13, Tryd.ntmps13
    go_wp2_with fail
    have hba : Below w.heap.size w (w.alloc (.cells #[.slice A1 n1 c1] 27)) := (Below.refl _ _).alloc (Nat.le_refl _) _
    have hsa := hba.size
    refine (stateCode_any A _ n c lo hi 1 1 0 (w.heap.size + 1) T [l] hm (by omega) _ (H2.out.below hba hhi) (by omega) (rdss_lit1 _ HL.out hm1 (HR.out.mono (Nat.zero_le _) (Nat.le_refl _)) hh1) (by simp)).mono ?_
    rintro e w1 ⟨rfl, hb1⟩
    rw [HC.out]
    have hB1 := hba.trans (hb1.mono hsa)
    have hs1 := hB1.size
    obtain ⟨e0, x, y, rfl, hx0, hx1, hy0, hy1⟩ := codeL_one HC.out
    have HO := hide e0
    obtain rfl : n1 = 2 := HL.out.symm
    clear e0
    have HS1 := hide hs1
    have HLL := hide (lens_ok T (p := (x, y)) ⟨⟨hx0, hx1⟩, hy0, hy1⟩).1
    go_wp2_with fail
    refine (lengths_any A A1 n c c1 lo hi l1 h1 T HO.out x y hx0 hx1 hy0 hy1 _ (H2.out.below hB1 hhi) (by omega) (HR.out.below hB1 hh1) (by omega)).mono ?_
    rintro e w2 ⟨v, rfl, hw, hb2⟩
    have HW := hide hw
    clear hw
    have hs2 := hb2.size
    go_wp2_with fail
    go_ret2
    refine ⟨v, rfl, ?_, hB1.trans (hb2.mono HS1.out)⟩
    rw [HV.out]
    exact (HW.out.mono HS1.out (Nat.le_refl _)).cast HLL.out.symm
  · have hz2 : (cc == 0) = false := by simpa using hz
    have hz3 : (cc != 0) = true := by simpa using hz
    have HV : Hid (lnL T l = []) := hide (by unfold lnL; rw [HC.out, if_neg hz])
    go_enter Tryd.func13, Tryd.ntmps13
    go_wp2_with fail
    have hba : Below w.heap.size w (w.alloc (.cells #[.slice A1 n1 c1] 27)) := (Below.refl _ _).alloc (Nat.le_refl _) _
    have hsa := hba.size
    refine (stateCode_any A _ n c lo hi 1 1 0 (w.heap.size + 1) T [l] hm (by omega) _ (H2.out.below hba hhi) (by omega) (rdss_lit1 _ HL.out hm1 (HR.out.mono (Nat.zero_le _) (Nat.le_refl _)) hh1) (by simp)).mono ?_
    rintro e w1 ⟨rfl, hb1⟩
    rw [HC.out]
    have hB1 := hba.trans (hb1.mono hsa)
    have hs1 := hB1.size
    go_wp2_with fail
    go_ret2
    refine ⟨.slice none 0 0, rfl, ?_, hB1⟩
    rw [HV.out]
    exact OwnSS.nil_ _ _ _ _ _

end Go.Proofs.YtnbahmjimnhfbaaDoor
