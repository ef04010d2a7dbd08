/-
  RouteLength: the reference's and the program's. No condition but those that each theorem names.
-/
import Derived.Test.YtnbahmjimnhfbaaDoorLenR
namespace Go.Proofs.YtnbahmjimnhfbaaDoor
open Go.RowKit
set_option linter.unusedVariables false
theorem codeL_two {T : List (List Bool)} {l l' : List Int} (h : codeL T [l, l'] = 0) : okT T = true ∧ ∃ x y, l = [x, y] ∧ 0 ≤ x ∧ x ≤ 23 ∧ 0 ≤ y ∧ y ≤ 23 ∧ ∃ z u, l' = [z, u] ∧ 0 ≤ z ∧ z ≤ 23 ∧ 0 ≤ u ∧ u ≤ 23 := by
  obtain ⟨h1, h2⟩ := codeL_zero h
  obtain ⟨x, y, e, a, b, c, d⟩ := stV_two (h2 l (by simp)).1
  obtain ⟨z, u, e', a', b', c', d'⟩ := stV_two (h2 l' (by simp)).1
  exact ⟨h1, x, y, e, a, b, c, d, z, u, e', a', b', c', d'⟩
/-- What RouteLength answers. -/
def rlN (T : List (List Bool)) (l l' : List Int) : Int := dget (lens T (l.getD 0 0, l.getD 1 0)) (l'.getD 0 0) (l'.getD 1 0)
def rlP (T : List (List Bool)) (l l' : List Int) : Int × Int := if codeL T [l, l'] = 0 then (if rlN T l l' < 0 then (0, 3) else (rlN T l l', 0)) else (0, codeL T [l, l'])

set_option maxRecDepth 100000 in
set_option maxHeartbeats 8000000 in
theorem implRouteLength_any (A A1 A2 : Option Addr) (n c lo hi n1 c1 l1 h1 n2 c2 l2 h2 : Nat) (T : List (List Bool)) (l l' : List Int) (hm : n ≤ maxLen) (hl : l.length = n1) (hm1 : n1 ≤ maxLen) (hl' : l'.length = n2) (hm2 : n2 ≤ maxLen) (w : World) (h : RdSS w lo hi A n (rrBool T)) (hhi : hi ≤ w.heap.size) (hr : Rd w l1 h1 1 A1 n1 (rInt64 l)) (hh1 : h1 ≤ w.heap.size) (hr' : Rd w l2 h2 1 A2 n2 (rInt64 l')) (hh2 : h2 ≤ w.heap.size) :
    Calls Tryd.prog 7 #[.slice A n c, .slice A1 n1 c1, .slice A2 n2 c2] w fun e w' => e = .returned (.tuple #[.int .i64 (rlP T l l').1, .int .i64 (rlP T l l').2]) ∧ Below w.heap.size w w' := by
  have H2 := hide h
  have HR := hide hr
  have HL := hide hl
  have HR2 := hide hr'
  have HL2 := hide hl'
  clear h hr hl hr' hl'
  obtain ⟨cc, hcc⟩ : ∃ cc, codeL T [l, l'] = cc := ⟨_, rfl⟩
  have HC := hide hcc
  clear hcc
  by_cases hz : cc = 0
  · subst hz
    go_enter Tryd.func7, Tryd.ntmps7
    go_wp2_with fail
    have hba : Below w.heap.size w (w.alloc (.cells #[.slice A1 n1 c1, .slice A2 n2 c2] 27)) := (Below.refl _ _).alloc (Nat.le_refl _) _
    have hsa := hba.size
    refine (stateCode_any A _ n c lo hi 2 2 0 (w.heap.size + 1) T [l, l'] hm (by omega) _ (H2.out.below hba hhi) (by omega) (rdss_lit2 _ HL.out hm1 (HR.out.mono (Nat.zero_le _) (Nat.le_refl _)) hh1 HL2.out hm2 (HR2.out.mono (Nat.zero_le _) (Nat.le_refl _)) hh2) (by simp)).mono ?_
    rintro e w1 ⟨rfl, hb1⟩
    rw [HC.out]
    have hB1 := hba.trans (hb1.mono hsa)
    have hs1 := hB1.size
    obtain ⟨e0, x, y, rfl, hx0, hx1, hy0, hy1, z, u, rfl, hz0, hz1, hu0, hu1⟩ := codeL_two HC.out
    have HO := hide e0
    obtain rfl : n1 = 2 := HL.out.symm
    obtain rfl : n2 = 2 := HL2.out.symm
    clear e0
    have HS1 := hide hs1
    have HLL := hide (lens_ok T (p := (x, y)) ⟨⟨hx0, hx1⟩, hy0, hy1⟩)
    have HV : Hid (rlP T [x, y] [z, u] = if dget (lens T (x, y)) z u < 0 then (0, 3) else (dget (lens T (x, y)) z u, 0)) := hide (by unfold rlP; rw [if_pos HC.out]; rfl)
    obtain ⟨hgb1, hgb2⟩ := lens_bd T (p := (x, y)) ⟨⟨hx0, hx1⟩, hy0, hy1⟩ (c := z) (d := u) ⟨hz0, hz1⟩ ⟨hu0, hu1⟩
    obtain ⟨kz, rfl⟩ : ∃ k : Nat, z = k := ⟨z.toNat, by omega⟩
    obtain ⟨ku, rfl⟩ : ∃ k : Nat, u = k := ⟨u.toNat, by omega⟩
    obtain ⟨bt, ot, rfl, _, hbt, t0, t1⟩ := st_cells HR2.out
    have HNE : Hid ((27 : TypeId) ≠ 2) := hide (by decide)
    have hbB : bt < w.heap.size := by omega
    have HT := hide (show w.cell? ⟨bt, ot, none⟩ = some (.int .i64 (kz : Int)) ∧ w.cell? ⟨bt, ot + 1, none⟩ = some (.int .i64 (ku : Int)) from ⟨t0, t1⟩)
    clear t0 t1
    have tc0 := (hB1.cell (p := ⟨bt, ot, none⟩) (by show bt < _; omega)).trans HT.out.1
    have tc1 := (hB1.cell (p := ⟨bt, ot + 1, none⟩) (by show bt < _; omega)).trans HT.out.2
    have HRa := HR.out.below hB1 hh1
    have H2a := H2.out.below hB1 hhi
    have HRD := hide (show Rd w1.drew l1 h1 1 A1 2 (rInt64 [x, y]) from HRa)
    have H2D := hide (show RdSS w1.drew lo hi A n (rrBool T) from H2a)
    clear HRa H2a
    have hhd : hi ≤ w1.drew.heap.size := by show hi ≤ w1.heap.size; omega
    have hhe : h1 ≤ w1.drew.heap.size := by show h1 ≤ w1.heap.size; omega
    have HT1 : Hid (w1.drew.cell? ⟨bt, ot, none⟩ = some (.int .i64 (kz : Int)) ∧ w1.drew.cell? ⟨bt, ot + 1, none⟩ = some (.int .i64 (ku : Int))) := hide ⟨tc0, tc1⟩
    have hbz : bt < w1.drew.heap.size := by show bt < w1.heap.size; omega
    have HB1 := hide (hB1.trans (below_drew _ _))
    have b1 : (kz : Int) < 24 := by omega
    have b2 : (ku : Int) < 24 := by omega
    have b3 : (0 : Int) ≤ kz := by omega
    have b4 : (0 : Int) ≤ ku := by omega
    obtain ⟨d, hd⟩ : ∃ d, dget (lens T (x, y)) (kz : Int) (ku : Int) = d := ⟨_, rfl⟩
    rw [hd] at HV hgb1 hgb2
    have HDD := hide hd
    have HSP : Hid ((decide (d < 0) = true ∧ rlP T [x, y] [(kz : Int), (ku : Int)] = (0, 3)) ∨ (decide (d < 0) = false ∧ rlP T [x, y] [(kz : Int), (ku : Int)] = (d, 0))) := hide (by rw [HV.out]; by_cases hneg : d < 0; exact .inl ⟨by simpa using hneg, by rw [if_pos hneg]⟩; exact .inr ⟨by simpa using hneg, by rw [if_neg hneg]⟩)
    clear hd hB1
    go_wp2_with fail
    go_region_with (go_at_call 20; (with_reducible refine (lengths_any A A1 n c c1 lo hi l1 h1 T HO.out x y hx0 hx1 hy0 hy1 _ (by first | exact H2D.out | exact H2E.out) (by first | exact hhd | exact hhc) (by first | exact HRD.out | exact HRE.out) (by first | exact hhe | exact hhf)).mono ?_); rintro e w2 ⟨v, rfl, hw, hb2⟩; have HW := hide hw; (obtain ⟨us, hus, _⟩ := hw); (obtain ⟨gv, cv, rfl⟩ := Joins.ownsRow_form hus.1 (by omega)); clear hus; (obtain ⟨_, _, gr, cr, _, _, kr, kx, _, _⟩ := dcell HW.out HNE.out (Nat.le_refl _) HLL.out kz ku (by omega) (by omega)); rw [HDD.out] at kx; have HB2 := hide (HB1.out.trans (hb2.mono HS1.out)); (have HT2 : Hid (w2.cell? ⟨bt, ot, none⟩ = some (.int .i64 (kz : Int)) ∧ w2.cell? ⟨bt, ot + 1, none⟩ = some (.int .i64 (ku : Int))) := hide ⟨(hb2.cell (p := ⟨bt, ot, none⟩) hbz).trans HT1.out.1, (hb2.cell (p := ⟨bt, ot + 1, none⟩) hbz).trans HT1.out.2⟩); have t0 := HT2.out.1; have t1 := HT2.out.2; clear hb2)
    all_goals clear tc0 tc1
    all_goals rcases HSP.out with ⟨hg1, hv⟩ | ⟨hg1, hv⟩
    all_goals have HVV := hide hv
    all_goals clear hv
    all_goals go_wp2_with fail
    all_goals go_ret2
    all_goals exact ⟨ret_pr3 HVV.out, HB2.out⟩
  · have hz2 : (cc == 0) = false := by simpa using hz
    have hz3 : (cc != 0) = true := by simpa using hz
    have HV : Hid (rlP T l l' = (0, cc)) := hide (by unfold rlP; rw [HC.out, if_neg hz])
    go_enter Tryd.func7, Tryd.ntmps7
    go_wp2_with fail
    have hba : Below w.heap.size w (w.alloc (.cells #[.slice A1 n1 c1, .slice A2 n2 c2] 27)) := (Below.refl _ _).alloc (Nat.le_refl _) _
    have hsa := hba.size
    refine (stateCode_any A _ n c lo hi 2 2 0 (w.heap.size + 1) T [l, l'] hm (by omega) _ (H2.out.below hba hhi) (by omega) (rdss_lit2 _ HL.out hm1 (HR.out.mono (Nat.zero_le _) (Nat.le_refl _)) hh1 HL2.out hm2 (HR2.out.mono (Nat.zero_le _) (Nat.le_refl _)) hh2) (by simp)).mono ?_
    rintro e w1 ⟨rfl, hb1⟩
    rw [HC.out]
    have hB1 := hba.trans (hb1.mono hsa)
    have hs1 := hB1.size
    go_wp2_with fail
    go_ret2
    exact ⟨ret_pr3 HV.out, hB1⟩

end Go.Proofs.YtnbahmjimnhfbaaDoor
