/-
  CountReached: the reference's and the program's. No condition but those that each theorem names.
-/
import Derived.Test.YtnbahmjimnhfbaaDoorLenR
namespace Go.Proofs.YtnbahmjimnhfbaaDoor
open Go.RowKit
set_option linter.unusedVariables false

set_option maxRecDepth 100000 in
set_option maxHeartbeats 8000000 in
theorem implCountReached_any (A A1 : Option Addr) (n c lo hi n1 c1 l1 h1 : Nat) (T : List (List Bool)) (l : List Int) (hm : n ≤ maxLen) (hl : l.length = n1) (hm1 : n1 ≤ maxLen) (w : World) (h : RdSS w lo hi A n (rrBool T)) (hhi : hi ≤ w.heap.size) (hr : Rd w l1 h1 1 A1 n1 (rInt64 l)) (hh1 : h1 ≤ w.heap.size) :
    Calls Tryd.prog 15 #[.slice A n c, .slice A1 n1 c1] w fun e w' => e = .returned (.tuple #[.int .i64 (crcP T l).1, .int .i64 (crcP T l).2]) ∧ Below w.heap.size w w' := by
  have H2 := hide h
  have HR := hide hr
  have HL := hide hl
  clear h hr hl
  obtain ⟨cc, hcc⟩ : ∃ cc, codeL T [l] = cc := ⟨_, rfl⟩
  have HC := hide hcc
  clear hcc
  by_cases hz : cc = 0
  · subst hz
    have HV : Hid (crcP T l = (((cntTo (lens T (l.getD 0 0, l.getD 1 0)) 24 : Nat) : Int), 0)) := hide (by unfold crcP; rw [if_pos HC.out])
    go_enter Tryd.func15, Tryd.ntmps15
    go_wp2_with fail
    refine (implLengthsFrom_any A A1 n c lo hi n1 c1 l1 h1 T l hm HL.out hm1 _ H2.out hhi HR.out hh1).mono ?_
    rintro e w2 ⟨v, rfl, hw, hb2⟩
    rw [HC.out]
    have HW := hide hw
    clear hw
    have hs2 := hb2.size
    obtain ⟨e0, x, y, rfl, hx0, hx1, hy0, hy1⟩ := codeL_one HC.out
    have HO := hide e0
    obtain rfl : n1 = 2 := HL.out.symm
    clear e0
    have HLL := hide (lens_ok T (p := (x, y)) ⟨⟨hx0, hx1⟩, hy0, hy1⟩)
    have HLV : Hid (lnL T [x, y] = lens T (x, y)) := hide (by unfold lnL; rw [if_pos HC.out]; rfl)
    rw [HLV.out, HLL.out.1] at HW
    have HNE : Hid ((27 : TypeId) ≠ 2) := hide (by decide)
    obtain ⟨us, hus, _⟩ := HW.out
    obtain ⟨gv, cv, hvv⟩ := Joins.ownsRow_form hus.1 (by omega)
    subst hvv
    clear hus
    obtain ⟨D, hD⟩ : ∃ D, lens T (x, y) = D := ⟨_, rfl⟩
    have HV2 : Hid (crcP T [x, y] = (((cntTo D 24 : Nat) : Int), 0)) := hide (by rw [← hD]; exact HV.out)
    rw [hD] at HW HLL
    clear HV
    go_wp2_with fail
    go_loop [8, 24] (fun v i => ∃ k : Nat, k ≤ 24 ∧ i = .int .i64 k ∧ v = .int .i64 (cntTo D k : Nat)) (fun _ i => 24 - (intOf i).toNat)
    case atStart => exact ⟨0, by omega, rfl, rfl⟩
    case round =>
      obtain ⟨k, hk, rfl, rfl⟩ := hrel
      have hck := cntTo_le D k
      by_cases hlt : k < 24
      · have x1 : (k : Int) < 24 := by omega
        obtain ⟨_, _, gr, cr, _, _, kr, _, _, _⟩ := dcell HW.out HNE.out (Nat.le_refl _) HLL.out k 0 hlt (by omega)
        obtain ⟨qq, hqq⟩ : ∃ qq, cntTo D k = qq := ⟨_, rfl⟩
        rw [hqq] at hck
        have HQQ := hide hqq
        rw [hqq]
        clear hqq
        go_wp2_with fail
        go_loop [8, 30] (fun v i => ∃ j : Nat, j ≤ 24 ∧ i = .int .i64 j ∧ v = .int .i64 ((qq + cntIn D k j : Nat) : Int)) (fun _ i => 24 - (intOf i).toNat)
        case atStart => exact ⟨0, by omega, rfl, rfl⟩
        case round =>
          obtain ⟨j, hj, rfl, rfl⟩ := hrel
          have hcj := cntIn_le D k j
          by_cases hlj : j < 24
          · have x2 : (j : Int) < 24 := by omega
            obtain ⟨_, _, gr', cr', _, _, kr', kx, _, _⟩ := dcell HW.out HNE.out (Nat.le_refl _) HLL.out k j hlt hlj
            obtain ⟨rfl, rfl⟩ : gr = gr' ∧ cr = cr' := by rw [kr] at kr'; injection kr' with e1; injection e1 with e2 e3 e4; injection e2 with e2; injection e2 with e2; exact ⟨e2, e4⟩
            clear kr'
            have hs0 : cntIn D k (j + 1) = cntIn D k j + (if dget D k j < 0 then 0 else 1) := rfl
            obtain ⟨z, hz⟩ : ∃ z, dget D k j = z := ⟨_, rfl⟩
            rw [hz] at kx hs0
            obtain ⟨cj, hcj2⟩ : ∃ cj, cntIn D k j = cj := ⟨_, rfl⟩
            rw [hcj2] at hs0 hcj
            rw [hcj2]
            clear hz hcj2
            by_cases hneg : z < 0
            · rw [if_pos hneg] at hs0
              have HS0 := hide hs0
              clear hs0
              have hg1 : decide (0 ≤ z) = false := by simpa using hneg
              go_wp2_with fail
              go_round
              case rel => exact ⟨j + 1, by omega, by go_num, vint (by rw [HS0.out]; omega)⟩
              case measure => simp [intOf]; omega
            · rw [if_neg hneg] at hs0
              have HS0 := hide hs0
              clear hs0
              have hg1 : decide (0 ≤ z) = true := by simp; omega
              go_wp2_with fail
              go_round
              case rel => exact ⟨j + 1, by omega, by go_num, vint (by rw [HS0.out]; omega)⟩
              case measure => simp [intOf]; omega
          · obtain rfl : j = 24 := by omega
            have HS1' : Hid (cntTo D (k + 1) = qq + cntIn D k 24) := hide (by show cntTo _ k + _ = _; rw [HQQ.out])
            go_wp2_with fail
            go_round
            case rel => exact ⟨k + 1, by omega, by go_num, vint (by rw [HS1'.out])⟩
            case measure => simp [intOf]; omega
      · obtain rfl : k = 24 := by omega
        go_wp2_with fail
        go_ret2
        exact ⟨ret_pr3 HV2.out, hb2⟩
  · have hz2 : (cc == 0) = false := by simpa using hz
    have hz3 : (cc != 0) = true := by simpa using hz
    have HV : Hid (crcP T l = (0, cc)) := hide (by unfold crcP; rw [HC.out, if_neg hz])
    go_enter Tryd.func15, Tryd.ntmps15
    go_wp2_with fail
    refine (implLengthsFrom_any A A1 n c lo hi n1 c1 l1 h1 T l hm HL.out hm1 _ H2.out hhi HR.out hh1).mono ?_
    rintro e w2 ⟨v, rfl, hw, hb2⟩
    rw [HC.out]
    have HW := hide hw
    clear hw
    have hs2 := hb2.size
    go_wp2_with fail
    go_ret2
    exact ⟨ret_pr3 HV.out, hb2⟩

end Go.Proofs.YtnbahmjimnhfbaaDoor
