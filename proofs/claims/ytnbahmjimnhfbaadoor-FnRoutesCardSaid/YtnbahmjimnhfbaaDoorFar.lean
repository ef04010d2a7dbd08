/-
  FarthestState: the reference's and the program's. No condition but those that each theorem names.
-/
import Derived.Test.YtnbahmjimnhfbaaDoorLenR
namespace Go.Proofs.YtnbahmjimnhfbaaDoor
open Go.RowKit
set_option linter.unusedVariables false
/-- The farthest state among the states seen so far, and its length. -/
def farStep (D : List (List Int)) (a j : Nat) (s : (Int × Int) × Int) : (Int × Int) × Int := if s.2 < dget D a j then (((a : Int), (j : Int)), dget D a j) else s
def farIn (D : List (List Int)) (a : Nat) (s : (Int × Int) × Int) : Nat → (Int × Int) × Int
  | 0 => s
  | j + 1 => farStep D a j (farIn D a s j)
def farTo (D : List (List Int)) : Nat → (Int × Int) × Int
  | 0 => ((0, 0), -1)
  | k + 1 => farIn D k (farTo D k) 24
/-- What FarthestState answers: the state, its length. -/
def farL (T : List (List Bool)) (l : List Int) : List Int := if codeL T [l] = 0 then pr2 (farTo (lens T (l.getD 0 0, l.getD 1 0)) 24).1 else []
def farM (T : List (List Bool)) (l : List Int) : Int := if codeL T [l] = 0 then (farTo (lens T (l.getD 0 0, l.getD 1 0)) 24).2 else 0
theorem farL_len (T : List (List Bool)) (l : List Int) : (farL T l).length ≤ 2 := by unfold farL; split <;> simp [pr2]
theorem farIn_zero (D : List (List Int)) (a : Nat) (s : (Int × Int) × Int) : farIn D a s 0 = s := rfl
theorem Own.nil_ (w : World) (lo hi : Nat) (e : TypeId) (s : Nat) : Own w lo hi e s (.slice none 0 0) 0 [] :=
  ⟨World.ownsRow_nil _ _ _ _, fun g hg => by simp [Value.ownBlock] at hg⟩
theorem ret3b {v : Value} {a b c : Int} (h : b = a) : Ending.returned (.tuple #[v, .int .i64 a, .int .i64 c]) = .returned (.tuple #[v, .int .i64 b, .int .i64 c]) := by rw [h]

set_option maxRecDepth 100000 in
set_option maxHeartbeats 8000000 in
theorem implFarthestState_any (A A1 : Option Addr) (n c lo hi n1 c1 l1 h1 : Nat) (T : List (List Bool)) (l : List Int) (hm : n ≤ maxLen) (hl : l.length = n1) (hm1 : n1 ≤ maxLen) (w : World) (h : RdSS w lo hi A n (rrBool T)) (hhi : hi ≤ w.heap.size) (hr : Rd w l1 h1 1 A1 n1 (rInt64 l)) (hh1 : h1 ≤ w.heap.size) :
    Calls Tryd.prog 16 #[.slice A n c, .slice A1 n1 c1] w fun e w' => ∃ v, e = .returned (.tuple #[v, .int .i64 (farM T l), .int .i64 (codeL T [l])]) ∧ Own w' w.heap.size w'.heap.size 2 1 v (farL T l).length (rInt64 (farL T l)) ∧ Below w.heap.size w w' := by
  have H2 := hide h
  have HR := hide hr
  have HL := hide hl
  clear h hr hl
  obtain ⟨cc, hcc⟩ : ∃ cc, codeL T [l] = cc := ⟨_, rfl⟩
  have HC := hide hcc
  rw [hcc]
  clear hcc
  by_cases hz : cc = 0
  · subst hz
    have HV : Hid (farL T l = pr2 (farTo (lens T (l.getD 0 0, l.getD 1 0)) 24).1 ∧ farM T l = (farTo (lens T (l.getD 0 0, l.getD 1 0)) 24).2) := hide (by unfold farL farM; rw [if_pos HC.out, if_pos HC.out]; exact ⟨rfl, rfl⟩)
    go_enter Tryd.func16, Tryd.ntmps16
    go_wp2_with fail
    refine (implLengthsFrom_any A A1 n c lo hi n1 c1 l1 h1 T l hm HL.out hm1 _ H2.out hhi HR.out hh1).mono ?_
    rintro e w2 ⟨v, rfl, hw, hb2⟩
    rw [HC.out]
    have HW := hide hw
    clear hw
    have hs2 := hb2.size
    obtain ⟨e0, x, y, rfl, hx0, hx1, hy0, hy1⟩ := codeL_one HC.out
    have HO := hide e0
    obtain rfl : n1 = 2 := HL.out.symm
    clear e0
    have HLL := hide (lens_ok T (p := (x, y)) ⟨⟨hx0, hx1⟩, hy0, hy1⟩)
    have HLV : Hid (lnL T [x, y] = lens T (x, y)) := hide (by unfold lnL; rw [if_pos HC.out]; rfl)
    rw [HLV.out, HLL.out.1] at HW
    have HB2 := hide hb2
    have HNE : Hid ((27 : TypeId) ≠ 2) := hide (by decide)
    obtain ⟨us, hus, _⟩ := HW.out
    obtain ⟨gv, cv, hvv⟩ := Joins.ownsRow_form hus.1 (by omega)
    subst hvv
    clear hus
    obtain ⟨D, hD⟩ : ∃ D, lens T (x, y) = D := ⟨_, rfl⟩
    have HV2 : Hid (farL T [x, y] = pr2 (farTo D 24).1 ∧ farM T [x, y] = (farTo D 24).2) := hide (by rw [← hD]; exact HV.out)
    rw [hD] at HW HLL
    clear HV
    go_wp2_with fail
    go_loopw [9, 10, 27] (fun v m i wr => ∃ k : Nat, k ≤ 24 ∧ i = .int .i64 k ∧ m = .int .i64 (farTo D k).2 ∧ Hid (Own wr w2.heap.size wr.heap.size 2 1 v 2 (rInt64 (pr2 (farTo D k).1))) ∧ Below w2.heap.size w2 wr) (fun _ _ i _ => 24 - (intOf i).toNat)
    case atStart => exact ⟨0, by omega, rfl, rfl, hide ((own_lit2 w2 0 0 _).mono (Nat.le_refl _) (by simp)), (Below.refl _ _).alloc (Nat.le_refl _) _⟩
    case round =>
      obtain ⟨k, hk, rfl, rfl, HO2, hbr⟩ := hrel
      have hsz := hbr.size
      by_cases hlt : k < 24
      · have x1 : (k : Int) < 24 := by omega
        obtain ⟨s0, hs0⟩ : ∃ s0, farTo D k = s0 := ⟨_, rfl⟩
        have HS0 := hide hs0
        rw [hs0] at HO2 ⊢
        clear hs0
        obtain ⟨_, _, gr, cr, _, _, kr, _, _, _⟩ := dcell (HW.out.below hbr (Nat.le_refl _)) HNE.out (by omega) HLL.out k 0 hlt (by omega)
        clear kr
        obtain ⟨p1, p2, gr, cr, _, _, kr, _, _, _⟩ := dcell HW.out HNE.out (Nat.le_refl _) HLL.out k 0 hlt (by omega)
        have HKR := hide kr
        clear kr
        have kr := (hbr.cell (p := ⟨gv, k, none⟩) (by show gv < _; omega)).trans HKR.out
        go_wp2_with fail
        obtain ⟨wo, rfl⟩ : ∃ wo : World, wo = wr := ⟨_, rfl⟩
        go_loopw [9, 10, 34] (fun v m i wr => ∃ j : Nat, j ≤ 24 ∧ i = .int .i64 j ∧ m = .int .i64 (farIn D k s0 j).2 ∧ Hid (Own wr w2.heap.size wr.heap.size 2 1 v 2 (rInt64 (pr2 (farIn D k s0 j).1))) ∧ Below w2.heap.size w2 wr) (fun _ _ i _ => 24 - (intOf i).toNat)
        case atStart => exact ⟨0, by omega, rfl, rfl, HO2, hbr⟩
        case round =>
          clear HO2 hbr hsz kr
          obtain ⟨j, hj, rfl, rfl, HO2, hbr⟩ := hrel
          have hsz := hbr.size
          by_cases hlj : j < 24
          · have x2 : (j : Int) < 24 := by omega
            obtain ⟨_, _, gr', cr', _, p3, kr, kx0, _, _⟩ := dcell HW.out HNE.out (Nat.le_refl _) HLL.out k j hlt hlj
            obtain ⟨rfl, rfl⟩ : gr' = gr ∧ cr' = cr := by rw [HKR.out] at kr; injection kr with e1; injection e1 with e2 e3 e4; injection e2 with e2; injection e2 with e2; exact ⟨e2.symm, e4.symm⟩
            have kx := (hbr.cell (p := ⟨gr', j, none⟩) (by show gr' < _; omega)).trans kx0
            clear kx0 kr
            have hs1 : farIn D k s0 (j + 1) = farStep D k j (farIn D k s0 j) := rfl
            unfold farStep at hs1
            obtain ⟨s, hs⟩ : ∃ s, farIn D k s0 j = s := ⟨_, rfl⟩
            rw [hs] at HO2 hs1 ⊢
            obtain ⟨z, hz⟩ : ∃ z, dget D k j = z := ⟨_, rfl⟩
            rw [hz] at kx hs1
            clear hs hz
            obtain ⟨sp, sm⟩ := s
            by_cases hneg : sm < z
            · rw [if_pos hneg] at hs1
              have HS1 := hide hs1
              clear hs1
              have hg1 : decide (sm < z) = true := by simpa using hneg
              go_wp2_with fail
    -- HERE
              go_roundw
              case rel => exact ⟨j + 1, by omega, by go_num, vint (by rw [HS1.out]), by rw [HS1.out]; exact hide ((own_lit2 wr _ _ _).mono hsz (by simp)), hbr.alloc hsz _⟩
              case measure => simp [intOf]; omega
            · rw [if_neg hneg] at hs1
              have HS1 := hide hs1
              clear hs1
              have hg1 : decide (sm < z) = false := by simpa using hneg
              go_wp2_with fail
              go_roundw
              case rel => exact ⟨j + 1, by omega, by go_num, vint (by rw [HS1.out]), by rw [HS1.out]; exact HO2, hbr⟩
              case measure => simp [intOf]; omega
          · obtain rfl : j = 24 := by omega
            have HS1 : Hid (farTo D (k + 1) = farIn D k s0 24) := hide (by show farIn D k (farTo D k) 24 = _; rw [HS0.out])
            go_wp2_with fail
            go_roundw
            case rel => exact ⟨k + 1, by omega, by go_num, vint (by rw [HS1.out]), by rw [HS1.out]; exact HO2, hbr⟩
            case measure => simp [intOf]; omega
      · obtain rfl : k = 24 := by omega
        have hsb := HB2.out.size
        have HO3 := hide (HO2.out.mono hsb (Nat.le_refl _))
        have HB3 := hide (HB2.out.trans (hbr.mono hsb))
        obtain ⟨gb, cb, rfl, _⟩ := row2_cells HO3.out
        go_wp2_with fail
        refine bodyPost_ret (v := .tuple #[.slice (some ⟨gb, 0, none⟩) 2 cb, .int .i64 (farTo D 24).2, .int .i64 0]) (by simp [results, Tryd.results16, go_sem]) rfl ?_
        refine ⟨.slice (some ⟨gb, 0, none⟩) 2 cb, ret3b HV2.out.2, ?_, HB3.out⟩
        rw [HV2.out.1]
        exact HO3.out
  · have hz2 : (cc == 0) = false := by simpa using hz
    have hz3 : (cc != 0) = true := by simpa using hz
    have HV : Hid (farL T l = [] ∧ farM T l = 0) := hide (by unfold farL farM; rw [HC.out, if_neg hz, if_neg hz]; exact ⟨rfl, rfl⟩)
    go_enter Tryd.func16, Tryd.ntmps16
    go_wp2_with fail
    refine (implLengthsFrom_any A A1 n c lo hi n1 c1 l1 h1 T l hm HL.out hm1 _ H2.out hhi HR.out hh1).mono ?_
    rintro e w2 ⟨v, rfl, hw, hb2⟩
    rw [HC.out]
    have HW := hide hw
    clear hw
    have hs2 := hb2.size
    go_wp2_with fail
    refine bodyPost_ret (v := .tuple #[.slice none 0 0, .int .i64 0, .int .i64 cc]) (by simp [results, Tryd.results16, go_sem]) rfl ?_
    refine ⟨.slice none 0 0, ret3b HV.out.2, ?_, hb2⟩
    rw [HV.out.1]
    exact Own.nil_ _ _ _ _ _

end Go.Proofs.YtnbahmjimnhfbaaDoor
