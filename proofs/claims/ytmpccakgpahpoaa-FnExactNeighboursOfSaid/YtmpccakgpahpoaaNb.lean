/-
  NeighboursOf: the reference's and the program's. No condition but those that each theorem names.
-/
import Derived.Test.YtmpccakgpahpoaaCov
import Derived.IntWalk
namespace Go.Proofs.Ytmpccakgpahpoaa
open Go.RowKit
set_option linter.unusedVariables false

/-- Is the crane c, the k-th, a neighbour of a, the i-th? -/
def nbB (a : Crn) (i : Int) (c : Crn) (k : Int) : Bool := decide (k ≠ i) && decide (sqD a.x a.y c.x c.y ≤ (a.j + c.j) * (a.j + c.j))
def nbP (a : Crn) (i : Int) (l : List Crn) (k : Nat) : Bool := nbB a i (l.getD k crZ) k
theorem nbP_at {a : Crn} {i : Int} {l : List Crn} {k : Nat} (hk : k < l.length) {b : Bool} (h : nbB a i l[k] k = b) : nbP a i l k = b := by unfold nbP; rw [getC hk]; exact h
theorem nbB_self {a : Crn} {i : Int} {c : Crn} {k : Int} (h : k = i) : nbB a i c k = false := by simp [nbB, h]
theorem nbB_other {a : Crn} {i : Int} {c : Crn} {k : Int} (h : k ≠ i) : nbB a i c k = decide (sqD a.x a.y c.x c.y ≤ (a.j + c.j) * (a.j + c.j)) := by simp [nbB, h]
/-- The code of a site and an index. -/
def cdN (l : List Crn) (i : Int) : Int := if siteB l = true then (if inR i 0 ((l.length : Int) - 1) = true then 0 else 2) else 1
def nbL (l : List Crn) (i : Int) : List Int := if cdN l i = 0 then flt (nbP (l.getD i.toNat crZ) i l) l.length else []
theorem nbL_len (l : List Crn) (i : Int) : (nbL l i).length ≤ l.length := by
  unfold nbL; split
  · exact flt_len _ _
  · simp
theorem cdN_bad {l : List Crn} {i : Int} (h : siteB l = false) : cdN l i = 1 := by simp [cdN, h]
theorem cdN_far {l : List Crn} {i : Int} (h : siteB l = true) (h2 : inR i 0 ((l.length : Int) - 1) = false) : cdN l i = 2 := by simp [cdN, h, h2]
theorem cdN_ok {l : List Crn} {i : Int} (h : siteB l = true) (h2 : inR i 0 ((l.length : Int) - 1) = true) : cdN l i = 0 := by simp [cdN, h, h2]
theorem ret_int' {a b : Int} (h : a = b) : Ending.returned (.int .i64 a) = .returned (.int .i64 b) := by rw [h]
theorem j_bd {c : Crn} (h : crB c = true) : 1 ≤ c.j ∧ c.j ≤ 1000 := inR_true (crB_true h).2.2.2.1
theorem farn_is {x y x' y' n : Int} (h : plB x y = true) (h' : plB x' y' = true) (hn0 : 0 ≤ n) (hn : n ≤ 2000) {r : Bool} (hr : decide (sqD x y x' y' ≤ n * n) = r) {w : World} :
    Calls Try.prog 75 #[.agg #[.int .i64 x, .int .i64 y], .agg #[.int .i64 x', .int .i64 y'], .int .i64 n] w fun e w' => e = .returned (.bool (!r)) ∧ Below w.heap.size w w' := by
  have e : (!r) = decide (n * n < sqD x y x' y') := by rw [← hr, Bool.eq_iff_iff]; simp
  rw [e]; exact l04Far_any x y x' y' h h' n hn0 hn w
theorem nearn_is {x y x' y' n : Int} (h : plB x y = true) (h' : plB x' y' = true) (hn0 : 0 ≤ n) (hn : n ≤ 2000) {r : Bool} (hr : decide (sqD x y x' y' ≤ n * n) = r) {w : World} :
    Calls Try.prog 55 #[.agg #[.int .i64 x, .int .i64 y], .agg #[.int .i64 x', .int .i64 y'], .int .i64 n] w fun e w' => e = .returned (.bool r) ∧ Below w.heap.size w w' := by
  rw [← hr]; exact near_any x y x' y' h h' n hn0 hn w

set_option maxRecDepth 100000 in
set_option maxHeartbeats 2000000 in
theorem index_is {i n : Int} (hn : 0 ≤ n) (hn2 : n ≤ 1048576) {r : Bool} (hr : inR i 0 (n - 1) = r) {w : World} :
    Calls Try.prog 107 #[.int .i64 i, .int .i64 n] w fun e w' => e = .returned (.bool r) ∧ w' = w := by
  have HR := hide hr
  clear hr
  go_enter Try.func107, Try.ntmps107
  go_wp2_with fail
  refine (within_is HR.out).mono ?_
  rintro e w2 ⟨rfl, rfl⟩
  go_wp2_with fail
  go_ret
  exact ⟨rfl, rfl⟩

set_option maxRecDepth 100000 in
set_option maxHeartbeats 2000000 in
theorem l04Code_any (bs os : Nat) (A : Option Addr) (n c lo hi : Nat) (own : Bool) (l : List Crn) (hn : n ≤ 1048576) (hch : ∀ p ∈ l, p.ch.length ≤ 1048576) (hnm : ∀ p ∈ l, p.nm.size ≤ maxLen) (w : World) (hbs : bs < w.heap.size) (hs : w.cell? ⟨bs, os, none⟩ = some (.slice A n c)) (h : RdC w lo hi own A n l) (hhi : hi ≤ w.heap.size) (i : Int) :
    Calls Try.prog 74 #[.pointer (some ⟨bs, os, none⟩), .int .i64 i] w fun e w' => e = .returned (.int .i64 (cdN l i)) ∧ Below w.heap.size w w' := by
  have HCH := hide hch
  have HNM := hide hnm
  have HLEN := hide h.length
  have HR := hide h
  clear hch hnm h
  have HS := hide hs
  clear hs
  cases e1 : siteB l
  case false =>
    have E := hide (cdN_bad (i := i) e1)
    go_enter Try.func74, Try.ntmps74
    go_wp2_with fail
    refine (l04Site_any bs os A n c lo hi own l hn HCH.out HNM.out _ hbs HS.out HR.out hhi).mono ?_
    rintro e w1 ⟨rfl, hb1⟩
    rw [e1]
    go_wp2_with fail
    go_ret
    exact ⟨ret_int' E.out.symm, hb1⟩
  obtain ⟨r, hr⟩ : ∃ r, inR i 0 ((n : Int) - 1) = r := ⟨_, rfl⟩
  have HI := hide hr
  have hr2 : inR i 0 ((l.length : Int) - 1) = r := by rw [HLEN.out]; exact hr
  have HI2 := hide hr2
  clear hr hr2
  go_enter Try.func74, Try.ntmps74
  go_wp2_with fail
  refine (l04Site_any bs os A n c lo hi own l hn HCH.out HNM.out _ hbs HS.out HR.out hhi).mono ?_
  rintro e w1 ⟨rfl, hb1⟩
  have q0 := (hb1.cell (p := ⟨bs, os, none⟩) hbs).trans HS.out
  rw [e1]
  have E1 := hide e1
  clear e1
  go_wp2_with fail
  refine (l00In_is HI.out).mono ?_
  rintro e w2 ⟨rfl, rfl⟩
  cases r
  case false =>
    have E := hide (cdN_far E1.out HI2.out)
    go_wp2_with fail
    go_ret
    exact ⟨ret_int' E.out.symm, hb1⟩
  have E := hide (cdN_ok E1.out HI2.out)
  go_wp2_with fail
  go_ret
  exact ⟨ret_int' E.out.symm, hb1⟩

set_option maxRecDepth 100000 in
set_option maxHeartbeats 2000000 in
theorem craneCode_any (A : Option Addr) (n c lo hi : Nat) (own : Bool) (l : List Crn) (hn : n ≤ 1048576) (hch : ∀ p ∈ l, p.ch.length ≤ 1048576) (hnm : ∀ p ∈ l, p.nm.size ≤ maxLen) (w : World) (h : RdC w lo hi own A n l) (hhi : hi ≤ w.heap.size) (hnc : n ≤ c) (i : Int) :
    Calls Try.prog 76 #[.agg #[.slice A n c], .int .i64 i] w fun e w' => e = .returned (.int .i64 (cdN l i)) ∧ Below w.heap.size w w' := by
  have HCH := hide hch
  have HNM := hide hnm
  have HLEN := hide h.length
  have HR := hide h
  clear hch hnm h
  obtain ⟨W0, hW0⟩ : ∃ W0 : World, (w.alloc (.cells #[.slice A n c] 36)) = W0 := ⟨_, rfl⟩
  have hb0 : Below w.heap.size w W0 := by rw [← hW0]; exact (Below.refl _ _).alloc (Nat.le_refl _) _
  have hz0 : W0.heap.size = w.heap.size + 1 := by rw [← hW0]; simp
  have HC0 : Hid (W0.cell? ⟨w.heap.size, 0, none⟩ = some (.slice A n c)) := hide (by rw [← hW0]; exact new_cell _ _ _ 0)
  have HW0 := hide hW0
  have HR0 := hide (HR.out.below hb0 hhi)
  clear hW0 HR
  obtain ⟨r, hr⟩ : ∃ r, inR i 0 ((n : Int) - 1) = r := ⟨_, rfl⟩
  have HI := hide hr
  have hr2 : inR i 0 ((l.length : Int) - 1) = r := by rw [HLEN.out]; exact hr
  have HI2 := hide hr2
  clear hr hr2
  go_enter Try.func76, Try.ntmps76
  go_wp2_with fail
  rw [HW0.out]
  refine (implValidSite_any A n c lo hi own l hn HCH.out HNM.out _ HR0.out (by omega) hnc).mono ?_
  rintro e w1 ⟨rfl, hb1⟩
  have hbz := hb0.trans (hb1.mono (by omega))
  have q0 := (hb1.cell (p := ⟨w.heap.size, 0, none⟩) (by show w.heap.size < _; omega)).trans HC0.out
  clear hb0 hb1 HW0
  cases e1 : siteB l
  case false =>
    have E := hide (cdN_bad (i := i) e1)
    go_wp2_with fail
    go_ret
    exact ⟨ret_int' E.out.symm, hbz⟩
  have E1 := hide e1
  clear e1
  go_wp2_with fail
  refine (index_is (by omega) (by omega) HI.out).mono ?_
  rintro e w2 ⟨rfl, rfl⟩
  cases r
  case false =>
    have E := hide (cdN_far E1.out HI2.out)
    go_wp2_with fail
    go_ret
    exact ⟨ret_int' E.out.symm, hbz⟩
  have E := hide (cdN_ok E1.out HI2.out)
  go_wp2_with fail
  go_ret
  exact ⟨ret_int' E.out.symm, hbz⟩

set_option maxRecDepth 100000 in
set_option maxHeartbeats 2000000 in
theorem neigh1_any (c a : Crn) (Ai : Option Addr) (ni ci : Nat) (hc : crB c = true) (hca : crB a = true) (i k : Int) (bi bo : Nat) (w : World) (hbi : bi < w.heap.size) (hbo : bo < w.heap.size) (hi : w.cell? ⟨bi, 0, none⟩ = some (.int .i64 i)) (a1 : w.cell? ⟨bo, 1, none⟩ = some (.int .i64 a.x)) (a2 : w.cell? ⟨bo, 2, none⟩ = some (.int .i64 a.y)) (a4 : w.cell? ⟨bo, 4, none⟩ = some (.int .i64 a.j)) :
    Calls Try.prog 78 #[.int .i64 k, .agg #[.string c.nm, .int .i64 c.x, .int .i64 c.y, .int .i64 c.h, .int .i64 c.j, .int .i64 c.b, .slice Ai ni ci], .pointer (some ⟨bi, 0, none⟩), .pointer (some ⟨bo, 0, none⟩)] w fun e w' => e = .returned (.bool (nbB a i c k)) ∧ Below w.heap.size w w' := by
  have HA := hide (crB_true hca).2.1
  have HC := hide (crB_true hc).2.1
  obtain ⟨aj0, aj1⟩ := j_bd hca
  obtain ⟨cj0, cj1⟩ := j_bd hc
  clear hca hc
  by_cases hk : k = i
  · have E := hide (nbB_self (a := a) (c := c) hk)
    go_enter Try.func78, Try.ntmps78
    go_wp2_with fail
    go_ret
    exact ⟨ret_bool E.out.symm, (Below.refl _ _).alloc (Nat.le_refl _) _⟩
  obtain ⟨r, hr⟩ : ∃ r, decide (sqD a.x a.y c.x c.y ≤ (a.j + c.j) * (a.j + c.j)) = r := ⟨_, rfl⟩
  have HRR := hide hr
  have E := hide ((nbB_other (a := a) (c := c) hk).trans hr)
  clear hr
  go_enter Try.func78, Try.ntmps78
  go_wp2_with fail
  refine (nearn_is HA.out HC.out (by omega) (by omega) HRR.out).mono ?_
  rintro e w1 ⟨rfl, hb1⟩
  have hB := ((Below.refl _ _).alloc (Nat.le_refl _) _).trans (hb1.mono (by simp))
  clear hb1 hi a1 a2 a4
  go_wp2_with fail
  go_ret
  exact ⟨ret_bool (by rw [E.out, show (k != i) = true by simpa using hk]; rfl), hB⟩

set_option maxRecDepth 100000 in
set_option maxHeartbeats 2000000 in
theorem thatN_any (A : Option Addr) (n c lo hi : Nat) (own : Bool) (l : List Crn) (hn : n ≤ 1048576) (hnm : ∀ p ∈ l, p.nm.size ≤ maxLen) (hs : siteB l = true) (w : World) (h : RdC w lo hi own A n l) (hhi : hi ≤ w.heap.size) (i : Int) (a : Crn) (hca : crB a = true) (bi bo : Nat) (hbi : bi < w.heap.size) (hbo : bo < w.heap.size) (hqi : w.cell? ⟨bi, 0, none⟩ = some (.int .i64 i)) (q1 : w.cell? ⟨bo, 1, none⟩ = some (.int .i64 a.x)) (q2 : w.cell? ⟨bo, 2, none⟩ = some (.int .i64 a.y)) (q4 : w.cell? ⟨bo, 4, none⟩ = some (.int .i64 a.j)) :
    Calls Try.prog 77 #[.agg #[.slice A n c], .func (.func 78) #[] #[.pointer (some ⟨bi, 0, none⟩), .pointer (some ⟨bo, 0, none⟩)]] w fun e w' => ∃ v, e = .returned v ∧ Own w' w.heap.size w'.heap.size 2 1 v (flt (nbP a i l) n).length (rInt64 (flt (nbP a i l) n)) ∧ Below w.heap.size w w' := by
  obtain ⟨i0, hi0, hz0, hz1, hz2⟩ := info_parts infoInt64
  have I := hide (And.intro hi0 (And.intro hz0 (And.intro hz1 hz2)))
  clear hi0 hz0 hz1 hz2
  have H1 := hide h.length
  have HNM := hide hnm
  have HCR := hide (siteB_cr hs).1
  have hl6 := (siteB_cr hs).2.2
  rw [H1.out] at hl6
  clear hnm hs
  have HCA := hide hca
  have HQ0 := hide (And.intro hqi (And.intro q1 (And.intro q2 q4)))
  clear hca hqi q1 q2 q4
  obtain ⟨W0, hW0⟩ : ∃ W0 : World, (w.alloc (.cells #[.slice A n c] 36)) = W0 := ⟨_, rfl⟩
  have hb0 : Below w.heap.size w W0 := by rw [← hW0]; exact (Below.refl _ _).alloc (Nat.le_refl _) _
  have hz0 : W0.heap.size = w.heap.size + 1 := by rw [← hW0]; simp
  have hc0 : W0.cell? ⟨w.heap.size, 0, none⟩ = some (.slice A n c) := by rw [← hW0]; exact new_cell _ _ _ 0
  have HW0 := hide hW0
  have HC0 := hide hc0
  have H2 := hide h
  clear hW0 h hc0
  go_enter Try.func77, Try.ntmps77
  go_wp2_with fail
  go_loopw [5, 11] (fun v ii wr => ∃ k : Nat, k ≤ n ∧ ii = .int .i64 k ∧ wr.ownsRow w.heap.size 2 1 v (flt (nbP a i l) k).length (rInt64 (flt (nbP a i l) k)) ∧ Below w.heap.size w wr) (fun _ ii _ => n - (intOf ii).toNat)
  case atStart => exact ⟨0, by omega, rfl, World.ownsRow_nil _ _ _ _, (Below.refl _ _).alloc (Nat.le_refl _) _⟩
  case round =>
    obtain ⟨k, hk, rfl, ho, hbr⟩ := hrel
    have hsz := hbr.size
    by_cases hlt : k < n
    · skip
      have hil : k < l.length := by rw [H1.out]; exact hlt
      obtain ⟨b, off, Ai, ci, hA, hb1', hb2', c0, c1, c2, c3, c4, c5, c6, hcm, hrd⟩ := (H2.out.below hbr hhi).at_ hil
      subst hA
      have HRD := hide hrd
      clear hrd
      have hbw : b < wr.heap.size := by omega
      have hhr : hi ≤ wr.heap.size := by omega
      have HC := hide (HCR.out _ (List.getElem_mem hil))
      have HNK := hide (HNM.out _ (List.getElem_mem hil))
      have HLE := flt_len (nbP a i l) k
      have hbir : bi < wr.heap.size := by omega
      have hbor : bo < wr.heap.size := by omega
      have HQA : Hid (∀ o : Obj, (wr.alloc o).cell? ⟨bi, 0, none⟩ = some (.int .i64 i) ∧ (wr.alloc o).cell? ⟨bo, 1, none⟩ = some (.int .i64 a.x) ∧ (wr.alloc o).cell? ⟨bo, 2, none⟩ = some (.int .i64 a.y) ∧ (wr.alloc o).cell? ⟨bo, 4, none⟩ = some (.int .i64 a.j)) := hide (fun o => ⟨((hbr.alloc hsz o).cell (p := ⟨bi, 0, none⟩) hbi).trans HQ0.out.1, ((hbr.alloc hsz o).cell (p := ⟨bo, 1, none⟩) hbo).trans HQ0.out.2.1, ((hbr.alloc hsz o).cell (p := ⟨bo, 2, none⟩) hbo).trans HQ0.out.2.2.1, ((hbr.alloc hsz o).cell (p := ⟨bo, 4, none⟩) hbo).trans HQ0.out.2.2.2⟩)
      obtain ⟨r, hr⟩ : ∃ r, nbB a i l[k] k = r := ⟨_, rfl⟩
      have HRR := hide hr
      have HP := hide (nbP_at hil hr)
      clear hr
      have z1 : (k : Int) < (n : Int) := by omega
      obtain ⟨ni, hni⟩ : ∃ ni, l[k].ch.length = ni := ⟨_, rfl⟩
      have HNI := hide hni
      rw [hni] at c6 hcm HRD
      clear hni
      generalize l[k] = cr at *
      have Ho := hide ho
      clear ho
      go_wp2_with fail
      refine (neigh1_any cr a Ai ni ci HC.out HCA.out i k bi bo _ (by simp; omega) (by simp; omega) (HQA.out _).1 (HQA.out _).2.1 (HQA.out _).2.2.1 (HQA.out _).2.2.2).mono ?_
      rintro e w1 ⟨rfl, hb1⟩
      rw [HRR.out]
      clear c0 c1 c2 c3 c4 c5 c6
      have hb2 : Below wr.heap.size wr w1 := ((Below.refl _ _).alloc (Nat.le_refl _) _).trans (hb1.mono (by simp))
      clear hb1
      have hs2 := hb2.size
      have Ho2 := hide (owns_below Ho.out hb2)
      clear Ho
      have hbz := hbr.trans (hb2.mono hsz)
      cases r
      case false =>
        have E := hide (flt_no HP.out)
        go_wp2_with fail
        go_roundw
        case rel => exact ⟨k + 1, by omega, by go_num, by rw [E.out]; exact Ho2.out, hbz⟩
        case measure => simp [intOf]; omega
      have E := hide (flt_yes HP.out)
      have Ho := Ho2
      go_wp2_with (at_builtin; refine wpList_append_own _ rfl (.tmp 20) (.tmp 22) 65 rfl w.heap.size 2 i0 (.int .i64 0) 1 8 Try.underlying65 I.out.1 I.out.2.1 I.out.2.2.1 I.out.2.2.2 rfl (by decide) _ _ _ rfl (Ho.out.alloc _) ⟨w1.heap.size, 0, none⟩ 1 1 [.int .i64 (k : Int)] rfl rfl (cell_one_at _ _ _ _ rfl) (by simp [Value.oneCell']) (by unfold maxLen; omega) (by omega) (by simp; omega) ?_; intro v' wn hown' hgrow _)
      go_roundw
      case rel => exact ⟨k + 1, by omega, by go_num, by rw [E.out, rInt64_sn, List.length_append]; exact hown', (hbz.alloc hbz.size _).grown hgrow (by simp; omega) (fun g hg => (Ho.out.lt g hg).1)⟩
      case measure => simp [intOf]; omega
    · obtain rfl : k = n := by omega
      go_wp2_with fail
      go_ret
      exact ⟨_, rfl, Own.of_owns ho, hbr⟩

set_option maxRecDepth 100000 in
set_option maxHeartbeats 2000000 in
theorem specNeighboursOf_any (A : Option Addr) (n c lo hi : Nat) (own : Bool) (l : List Crn) (hn : n ≤ 1048576) (hch : ∀ p ∈ l, p.ch.length ≤ 1048576) (hnm : ∀ p ∈ l, p.nm.size ≤ maxLen) (w : World) (h : RdC w lo hi own A n l) (hhi : hi ≤ w.heap.size) (i : Int) (hi64 : (Lit.int .i64 i).wf = true) :
    Calls Try.prog 39 #[.agg #[.slice A n c], .int .i64 i] w fun e w' => ∃ v, e = .returned (.tuple #[v, .int .i64 (cdN l i)]) ∧ Own w' w.heap.size w'.heap.size 2 1 v (nbL l i).length (rInt64 (nbL l i)) ∧ Below w.heap.size w w' := by
  obtain ⟨i0, hi0, hz0, hz1, hz2⟩ := info_parts infoInt64
  have I := hide (And.intro hi0 (And.intro hz0 (And.intro hz1 hz2)))
  clear hi0 hz0 hz1 hz2
  have HCH := hide hch
  have HNM := hide hnm
  have HLEN := hide h.length
  clear hch hnm
  by_cases e1 : siteB l = true
  · by_cases e2 : inR i 0 ((l.length : Int) - 1) = true
    · skip
      obtain ⟨e20, e21⟩ := inR_true e2
      obtain ⟨m, rfl⟩ : ∃ m : Nat, i = (m : Int) := ⟨i.toNat, by omega⟩
      have hl6 := (siteB_cr e1).2.2
      have HS1 := hide e1
      have hml : m < l.length := by omega
      obtain ⟨a, ha⟩ : ∃ a, l[m] = a := ⟨_, rfl⟩
      have HA0 := hide ha
      have E : Hid (cdN l m = 0 ∧ nbL l m = flt (nbP a m l) n) := hide ⟨cdN_ok e1 e2, by unfold nbL; rw [if_pos (cdN_ok e1 e2), HLEN.out, Int.toNat_natCast, getC hml, ha]⟩
      have HCA := hide (show crB a = true from ha ▸ (siteB_cr e1).1 _ (List.getElem_mem hml))
      rw [HLEN.out] at hl6 hml e21
      clear ha e1 e2
      go_enter Try.func39, Try.ntmps39
      go_wp2_with fail
      obtain ⟨W0, hW0⟩ : ∃ W0 : World, W0 = (w.alloc (.cells #[.slice A n c] 36)) := ⟨_, rfl⟩
      rw [← hW0]
      have ks : Box W0 (w.heap.size) [.slice A n c] := by rw [hW0]; exact box_at _ _ _ _ (by simp)
      have hB : Below w.heap.size w W0 := by rw [hW0]; exact (by repeat (first | exact Below.refl _ _ | refine Below.drew ?_ | refine Below.alloc ?_ (by first | (simp; done) | (simp; omega)) _))
      have hs0 : w.heap.size + 1 ≤ W0.heap.size := by rw [hW0]; first | (simp; done) | (simp; omega)
      clear hW0
      replace h := h.below hB (by omega)
      have nks : w.heap.size < W0.heap.size := by omega
      have lks_0 := ks 0 _ rfl
      refine (l04Code_any w.heap.size 0 A n c lo hi own l hn HCH.out HNM.out _ (by omega) lks_0 h (by omega) (m : Int)).mono ?_
      rintro e w1 ⟨rfl, hb⟩
      have hbb : Below W0.heap.size W0 w1 := Below.trans (by repeat (first | exact Below.refl _ _ | refine Below.drew ?_ | refine Below.alloc ?_ (by first | (simp; done) | (simp; omega)) _)) (Below.mono hb (by simp))
      clear hb
      have hs1 := hbb.size
      replace h := h.below hbb (by omega)
      replace ks := ks.below hbb (by omega)
      replace hB := hB.trans (hbb.mono (by omega))
      clear hbb
      clear nks lks_0
      rw [E.out.1]
      have hrow := h.at_ (i := m) (by rw [HLEN.out]; exact hml)
      rw [HA0.out] at hrow
      obtain ⟨b, off, Ai, ci, hA, hb1', hb2', c0, c1, c2, c3, c4, c5, c6, hcm, hrd⟩ := hrow
      subst hA
      clear hrd hcm
      obtain ⟨ma, hma⟩ : ∃ ma, a.ch.length = ma := ⟨_, rfl⟩
      rw [hma] at c6
      clear hma
      have nks : w.heap.size < w1.heap.size := by omega
      have lks_0 := ks 0 _ rfl
      go_wp2_with fail
      clear nks lks_0
      have HCR := hide (siteB_cr HS1.out).1
      have HC1 := hide c1
      have HC2 := hide c2
      have HC4 := hide c4
      have KS := ks
      have HR0 := hide h
      clear c0 c1 c2 c3 c4 c5 c6 h ks
      go_loopw [7, 9] (fun v ii wr => ∃ k : Nat, k ≤ n ∧ ii = .int .i64 k ∧ wr.ownsRow w1.heap.size 2 1 v (flt (nbP a m l) k).length (rInt64 (flt (nbP a m l) k)) ∧ Below w1.heap.size w1 wr) (fun _ ii _ => n - (intOf ii).toNat)
      case atStart => exact ⟨0, by omega, rfl, World.ownsRow_made _ _ 0 (by omega) (Nat.zero_le _) rfl, (Below.refl _ _).alloc (Nat.le_refl _) _⟩
      case round =>
        obtain ⟨k, hk, rfl, ho, hbr⟩ := hrel
        have hsz := hbr.size
        have lks_0 := (hbr.cell (p := ⟨w.heap.size, 0, none⟩) (by show w.heap.size < _; omega)).trans (KS 0 _ rfl)
        by_cases hlt : k < n
        · skip
          have hil : k < l.length := by rw [HLEN.out]; exact hlt
          have hrow := (HR0.out.below hbr (by omega)).at_ hil
          obtain ⟨b2, off2, Aj, cj, hA, _, _, d0, d1, d2, d3, d4, d5, d6, hdm, hdr⟩ := hrow
          injection hA with hA
          injection hA with hA1 hA2
          subst hA1
          subst hA2
          clear hdr hdm d0 d3 d5 d6
          have hbw : b < w1.heap.size := by omega
          have a1 := (hbr.cell (p := ⟨b, off + m * 7 + 1, none⟩) hbw).trans HC1.out
          have a2 := (hbr.cell (p := ⟨b, off + m * 7 + 2, none⟩) hbw).trans HC2.out
          have a4 := (hbr.cell (p := ⟨b, off + m * 7 + 4, none⟩) hbw).trans HC4.out
          have HCK := HCR.out _ (List.getElem_mem hil)
          have HPA := hide (crB_true HCA.out).2.1
          have HPC := hide (crB_true HCK).2.1
          obtain ⟨aj0, aj1⟩ := j_bd HCA.out
          obtain ⟨cj0, cj1⟩ := j_bd HCK
          clear HCK
          have HLE := flt_len (nbP a m l) k
          have z0 : (0 : Int) ≤ (k : Int) := by omega
          have z1 : (k : Int) < (n : Int) := by omega
          by_cases hkm : (k : Int) = (m : Int)
          · skip
            have HP := hide (nbP_at hil (nbB_self (a := a) (i := (m : Int)) (c := l[k]) (k := (k : Int)) hkm))
            have F1 := hide (flt_no HP.out)
            have Ho := hide ho
            clear ho a1 a2 a4 d1 d2 d4
            go_wp2_with fail
            go_quiet (fail)
            go_wp2_with fail
            go_roundw
            case rel => exact ⟨k + 1, by omega, by go_num, by rw [F1.out]; exact Ho.out, hbr.trans ((Joins.below_draws _ _ _).mono hsz)⟩
            case measure => simp [intOf]; omega
          · skip
            obtain ⟨r, hr⟩ : ∃ r, decide (sqD a.x a.y l[k].x l[k].y ≤ (a.j + l[k].j) * (a.j + l[k].j)) = r := ⟨_, rfl⟩
            have HP := hide (nbP_at hil ((nbB_other (a := a) (c := l[k]) (k := (k : Int)) (i := (m : Int)) hkm).trans hr))
            have HRR := hide hr
            clear hr
            generalize l[k].x = cx at *
            generalize l[k].y = cy at *
            generalize l[k].j = cj at *
            have HF1 := hide (fun h => flt_no (p := nbP a m l) (k := k) h)
            have HF2 := hide (fun h => flt_yes (p := nbP a m l) (k := k) h)
            have HA1 := HPA.out
            obtain ⟨ax, hax⟩ : ∃ ax, a.x = ax := ⟨_, rfl⟩
            obtain ⟨ay, hay⟩ : ∃ ay, a.y = ay := ⟨_, rfl⟩
            obtain ⟨aj, haj⟩ : ∃ aj, a.j = aj := ⟨_, rfl⟩
            rw [hax] at a1 HPA HRR
            rw [hay] at a2 HPA HRR
            rw [haj] at a4 HRR aj0 aj1
            clear hax hay haj HA1
            have Ho := hide ho
            clear ho
            have HSS : Hid ((World.drew wr).cell? ⟨b, off + m * 7 + 1, none⟩ = some (.int .i64 ax) ∧ (World.drew wr).cell? ⟨b, off + m * 7 + 2, none⟩ = some (.int .i64 ay) ∧ (World.drew wr).cell? ⟨b, off + m * 7 + 4, none⟩ = some (.int .i64 aj) ∧ (World.drew wr).cell? ⟨b, off + k * 7 + 1, none⟩ = some (.int .i64 cx) ∧ (World.drew wr).cell? ⟨b, off + k * 7 + 2, none⟩ = some (.int .i64 cy) ∧ (World.drew wr).cell? ⟨b, off + k * 7 + 4, none⟩ = some (.int .i64 cj)) := hide ⟨a1, a2, a4, d1, d2, d4⟩
            have hbd : b < (World.drew wr).heap.size := by show b < wr.heap.size; omega
            have hkm2 : ((k : Int) != (m : Int)) = true := by simpa using hkm
            have hsum : IntKind.i64.wrap (aj + cj) = aj + cj := IntWalk.i64_in _ (by omega)
            go_wp2_with fail
            clear a1 a2 a4 d1 d2 d4 lks_0
            go_region_held3 (fun W => W.cell? ⟨b, off + m * 7 + 1, none⟩ = some (.int .i64 ax) ∧ W.cell? ⟨b, off + m * 7 + 2, none⟩ = some (.int .i64 ay) ∧ W.cell? ⟨b, off + m * 7 + 4, none⟩ = some (.int .i64 aj) ∧ W.cell? ⟨b, off + k * 7 + 1, none⟩ = some (.int .i64 cx) ∧ W.cell? ⟨b, off + k * 7 + 2, none⟩ = some (.int .i64 cy) ∧ W.cell? ⟨b, off + k * 7 + 4, none⟩ = some (.int .i64 cj)) (with_reducible exact HSS.out) (first | (go_at_call 75; (with_reducible refine (farn_is HPA.out HPC.out (by omega) (by omega) HRR.out).mono ?_); rintro e w3 ⟨rfl, hq3⟩; have hz3 : wr.heap.size ≤ w3.heap.size := hq3.size; have HSS : Hid (w3.cell? ⟨b, off + m * 7 + 1, none⟩ = some (.int .i64 ax) ∧ w3.cell? ⟨b, off + m * 7 + 2, none⟩ = some (.int .i64 ay) ∧ w3.cell? ⟨b, off + m * 7 + 4, none⟩ = some (.int .i64 aj) ∧ w3.cell? ⟨b, off + k * 7 + 1, none⟩ = some (.int .i64 cx) ∧ w3.cell? ⟨b, off + k * 7 + 2, none⟩ = some (.int .i64 cy) ∧ w3.cell? ⟨b, off + k * 7 + 4, none⟩ = some (.int .i64 cj)) := hide ⟨(hq3.cell (p := ⟨b, off + m * 7 + 1, none⟩) (by show b < wr.heap.size; omega)).trans HSS.out.1, (hq3.cell (p := ⟨b, off + m * 7 + 2, none⟩) (by show b < wr.heap.size; omega)).trans HSS.out.2.1, (hq3.cell (p := ⟨b, off + m * 7 + 4, none⟩) (by show b < wr.heap.size; omega)).trans HSS.out.2.2.1, (hq3.cell (p := ⟨b, off + k * 7 + 1, none⟩) (by show b < wr.heap.size; omega)).trans HSS.out.2.2.2.1, (hq3.cell (p := ⟨b, off + k * 7 + 2, none⟩) (by show b < wr.heap.size; omega)).trans HSS.out.2.2.2.2.1, (hq3.cell (p := ⟨b, off + k * 7 + 4, none⟩) (by show b < wr.heap.size; omega)).trans HSS.out.2.2.2.2.2⟩))
            have hb3 : Below wr.heap.size wr w3 := (Joins.below_draws _ _ 1 : Below wr.heap.size wr (World.drew wr)).trans hq3
            have hbz : Below w1.heap.size w1 w3 := hbr.trans (hb3.mono hsz)
            clear HSS hsum
            have Ho2 := hide (owns_below Ho.out hb3)
            clear Ho
            cases r
            case false =>
              have F1 := hide (HF1.out HP.out)
              go_wp2_with fail
              go_roundw
              case rel => exact ⟨k + 1, by omega, by go_num, by rw [F1.out]; exact Ho2.out, hbz⟩
              case measure => simp [intOf]; omega
            have F1 := hide (HF2.out HP.out)
            have Ho := Ho2
            go_wp2_with (at_builtin; refine wpList_append_own _ rfl (.tmp 56) (.tmp 58) 65 rfl w1.heap.size 2 i0 (.int .i64 0) 1 8 Try.underlying65 I.out.1 I.out.2.1 I.out.2.2.1 I.out.2.2.2 rfl (by decide) _ _ _ rfl (Ho.out.alloc _) ⟨w3.heap.size, 0, none⟩ 1 1 [.int .i64 (k : Int)] rfl rfl (cell_one_at _ _ _ _ rfl) (by simp [Value.oneCell']) (by unfold maxLen; omega) (by omega) (by simp; omega) ?_; intro v' wn hown' hgrow _)
            go_roundw
            case rel => exact ⟨k + 1, by omega, by go_num, by rw [F1.out, rInt64_sn, List.length_append]; exact hown', (hbz.alloc hbz.size _).grown hgrow (by simp; omega) (fun g hg => (Ho.out.lt g hg).1)⟩
            case measure => simp [intOf]; omega
        · obtain rfl : k = n := by omega
          go_wp2_with fail
          go_ret2
          exact ⟨_, retc E.out.1, by rw [E.out.2]; exact (Own.of_owns ho).mono (by omega) (Nat.le_refl _), hB.trans (hbr.mono (by omega))⟩
    · have e2 : inR i 0 ((l.length : Int) - 1) = false := by simpa using e2
      have E : Hid (cdN l i = 2 ∧ nbL l i = []) := hide ⟨(cdN_far e1 e2), by unfold nbL; rw [(cdN_far e1 e2)]; rfl⟩
      go_enter Try.func39, Try.ntmps39
      go_wp2_with fail
      obtain ⟨W0, hW0⟩ : ∃ W0 : World, W0 = (w.alloc (.cells #[.slice A n c] 36)) := ⟨_, rfl⟩
      rw [← hW0]
      have ks : Box W0 (w.heap.size) [.slice A n c] := by rw [hW0]; exact box_at _ _ _ _ (by simp)
      have hB : Below w.heap.size w W0 := by rw [hW0]; exact (by repeat (first | exact Below.refl _ _ | refine Below.drew ?_ | refine Below.alloc ?_ (by first | (simp; done) | (simp; omega)) _))
      have hs0 : w.heap.size + 1 ≤ W0.heap.size := by rw [hW0]; first | (simp; done) | (simp; omega)
      clear hW0
      replace h := h.below hB (by omega)
      have nks : w.heap.size < W0.heap.size := by omega
      have lks_0 := ks 0 _ rfl
      refine (l04Code_any w.heap.size 0 A n c lo hi own l hn HCH.out HNM.out _ (by omega) lks_0 h (by omega) i).mono ?_
      rintro e w1 ⟨rfl, hb⟩
      have hbb : Below W0.heap.size W0 w1 := Below.trans (by repeat (first | exact Below.refl _ _ | refine Below.drew ?_ | refine Below.alloc ?_ (by first | (simp; done) | (simp; omega)) _)) (Below.mono hb (by simp))
      clear hb
      have hs1 := hbb.size
      replace h := h.below hbb (by omega)
      replace ks := ks.below hbb (by omega)
      replace hB := hB.trans (hbb.mono (by omega))
      clear hbb
      clear nks lks_0
      rw [E.out.1]
      go_wp2_with fail
      go_ret2
      exact ⟨_, retc E.out.1, by rw [E.out.2]; exact Own.of_owns (World.ownsRow_nil _ _ _ _), hB⟩
  · have e1 : siteB l = false := by simpa using e1
    have E : Hid (cdN l i = 1 ∧ nbL l i = []) := hide ⟨(cdN_bad e1), by unfold nbL; rw [(cdN_bad e1)]; rfl⟩
    go_enter Try.func39, Try.ntmps39
    go_wp2_with fail
    obtain ⟨W0, hW0⟩ : ∃ W0 : World, W0 = (w.alloc (.cells #[.slice A n c] 36)) := ⟨_, rfl⟩
    rw [← hW0]
    have ks : Box W0 (w.heap.size) [.slice A n c] := by rw [hW0]; exact box_at _ _ _ _ (by simp)
    have hB : Below w.heap.size w W0 := by rw [hW0]; exact (by repeat (first | exact Below.refl _ _ | refine Below.drew ?_ | refine Below.alloc ?_ (by first | (simp; done) | (simp; omega)) _))
    have hs0 : w.heap.size + 1 ≤ W0.heap.size := by rw [hW0]; first | (simp; done) | (simp; omega)
    clear hW0
    replace h := h.below hB (by omega)
    have nks : w.heap.size < W0.heap.size := by omega
    have lks_0 := ks 0 _ rfl
    refine (l04Code_any w.heap.size 0 A n c lo hi own l hn HCH.out HNM.out _ (by omega) lks_0 h (by omega) i).mono ?_
    rintro e w1 ⟨rfl, hb⟩
    have hbb : Below W0.heap.size W0 w1 := Below.trans (by repeat (first | exact Below.refl _ _ | refine Below.drew ?_ | refine Below.alloc ?_ (by first | (simp; done) | (simp; omega)) _)) (Below.mono hb (by simp))
    clear hb
    have hs1 := hbb.size
    replace h := h.below hbb (by omega)
    replace ks := ks.below hbb (by omega)
    replace hB := hB.trans (hbb.mono (by omega))
    clear hbb
    clear nks lks_0
    rw [E.out.1]
    go_wp2_with fail
    go_ret2
    exact ⟨_, retc E.out.1, by rw [E.out.2]; exact Own.of_owns (World.ownsRow_nil _ _ _ _), hB⟩

set_option maxRecDepth 100000 in
set_option maxHeartbeats 2000000 in
theorem implNeighboursOf_any (A : Option Addr) (n c lo hi : Nat) (own : Bool) (l : List Crn) (hn : n ≤ 1048576) (hch : ∀ p ∈ l, p.ch.length ≤ 1048576) (hnm : ∀ p ∈ l, p.nm.size ≤ maxLen) (w : World) (h : RdC w lo hi own A n l) (hhi : hi ≤ w.heap.size) (i : Int) (hi64 : (Lit.int .i64 i).wf = true) (hnc : n ≤ c) :
    Calls Try.prog 40 #[.agg #[.slice A n c], .int .i64 i] w fun e w' => ∃ v, e = .returned (.tuple #[v, .int .i64 (cdN l i)]) ∧ Own w' w.heap.size w'.heap.size 2 1 v (nbL l i).length (rInt64 (nbL l i)) ∧ Below w.heap.size w w' := by
  have HCH := hide hch
  have HNM := hide hnm
  have HLEN := hide h.length
  clear hch hnm
  by_cases e1 : siteB l = true
  · by_cases e2 : inR i 0 ((l.length : Int) - 1) = true
    · skip
      obtain ⟨e20, e21⟩ := inR_true e2
      obtain ⟨m, rfl⟩ : ∃ m : Nat, i = (m : Int) := ⟨i.toNat, by omega⟩
      have hl6 := (siteB_cr e1).2.2
      have HS1 := hide e1
      have hml : m < l.length := by omega
      obtain ⟨a, ha⟩ : ∃ a, l[m] = a := ⟨_, rfl⟩
      have HA0 := hide ha
      have E : Hid (cdN l m = 0 ∧ nbL l m = flt (nbP a m l) n) := hide ⟨cdN_ok e1 e2, by unfold nbL; rw [if_pos (cdN_ok e1 e2), HLEN.out, Int.toNat_natCast, getC hml, ha]⟩
      have HCA := hide (show crB a = true from ha ▸ (siteB_cr e1).1 _ (List.getElem_mem hml))
      rw [HLEN.out] at hl6 hml e21
      clear ha e1 e2
      go_enter Try.func40, Try.ntmps40
      go_wp2_with fail
      obtain ⟨W0, hW0⟩ : ∃ W0 : World, W0 = ((w.alloc (.cells #[.slice A n c] 36)).alloc (.cells #[.int .i64 (m : Int)] 2)) := ⟨_, rfl⟩
      rw [← hW0]
      have ks : Box W0 (w.heap.size) [.slice A n c] := by rw [hW0]; exact (box_at _ _ _ _ (by simp)).alloc (by simp) _
      have ki : Box W0 (w.heap.size + 1) [.int .i64 (m : Int)] := by rw [hW0]; exact box_at _ _ _ _ (by simp)
      have hB : Below w.heap.size w W0 := by rw [hW0]; exact (by repeat (first | exact Below.refl _ _ | refine Below.drew ?_ | refine Below.alloc ?_ (by first | (simp; done) | (simp; omega)) _))
      have hs0 : w.heap.size + 2 ≤ W0.heap.size := by rw [hW0]; first | (simp; done) | (simp; omega)
      clear hW0
      replace h := h.below hB (by omega)
      refine (craneCode_any A n c lo hi own l hn HCH.out HNM.out _ h (by omega) hnc (m : Int)).mono ?_
      rintro e w1 ⟨rfl, hb⟩
      have hbb : Below W0.heap.size W0 w1 := Below.trans (by repeat (first | exact Below.refl _ _ | refine Below.drew ?_ | refine Below.alloc ?_ (by first | (simp; done) | (simp; omega)) _)) (Below.mono hb (by simp))
      clear hb
      have hs1 := hbb.size
      replace h := h.below hbb (by omega)
      replace ks := ks.below hbb (by omega)
      replace ki := ki.below hbb (by omega)
      replace hB := hB.trans (hbb.mono (by omega))
      clear hbb
      rw [E.out.1]
      have hrow := h.at_ (i := m) (by rw [HLEN.out]; exact hml)
      rw [HA0.out] at hrow
      obtain ⟨b, off, Ai, ci, hA, hb1', hb2', c0, c1, c2, c3, c4, c5, c6, hcm, hrd⟩ := hrow
      subst hA
      clear hrd hcm
      obtain ⟨ma, hma⟩ : ∃ ma, a.ch.length = ma := ⟨_, rfl⟩
      rw [hma] at c6
      clear hma
      have nks : w.heap.size < w1.heap.size := by omega
      have lks_0 := ks 0 _ rfl
      have nki : w.heap.size + 1 < w1.heap.size := by omega
      have lki_0 := ki 0 _ rfl
      go_wp2_with fail
      clear nks lks_0 nki lki_0
      clear c0 c1 c2 c3 c4 c5 c6
      obtain ⟨w2, hW⟩ : ∃ W : World, W = (w1.alloc (.cells #[.string a.nm, .int .i64 a.x, .int .i64 a.y, .int .i64 a.h, .int .i64 a.j, .int .i64 a.b, .slice Ai ma ci] 85)) := ⟨_, rfl⟩
      rw [← hW]
      have ko : Box w2 (w1.heap.size) [.string a.nm, .int .i64 a.x, .int .i64 a.y, .int .i64 a.h, .int .i64 a.j, .int .i64 a.b, .slice Ai ma ci] := by rw [hW]; exact box_at _ _ _ _ (by simp)
      have hbb : Below w1.heap.size w1 w2 := by rw [hW]; exact (by repeat (first | exact Below.refl _ _ | refine Below.drew ?_ | refine Below.alloc ?_ (by first | (simp; done) | (simp; omega)) _))
      have hs2 : w1.heap.size + 1 ≤ w2.heap.size := by rw [hW]; first | (simp; done) | (simp; omega)
      clear hW
      replace h := h.below hbb (by omega)
      replace ks := ks.below hbb (by omega)
      replace ki := ki.below hbb (by omega)
      replace hB := hB.trans (hbb.mono (by omega))
      clear hbb
      have Q1 := ki 0 _ rfl
      have Q2 := ko 1 _ rfl
      have Q3 := ko 2 _ rfl
      have Q4 := ko 4 _ rfl
      have QQ := hide (And.intro Q1 (And.intro Q2 (And.intro Q3 Q4)))
      clear Q1 Q2 Q3 Q4
      refine (thatN_any (some ⟨b, off, none⟩) n c lo hi own l hn HNM.out HS1.out _ h (by omega) m a HCA.out (w.heap.size + 1) w1.heap.size (by omega) (by omega) QQ.out.1 QQ.out.2.1 QQ.out.2.2.1 QQ.out.2.2.2).mono ?_
      rintro e w3 ⟨v, rfl, hown, hb⟩
      have hbb : Below w2.heap.size w2 w3 := Below.trans (by repeat (first | exact Below.refl _ _ | refine Below.drew ?_ | refine Below.alloc ?_ (by first | (simp; done) | (simp; omega)) _)) (Below.mono hb (by simp))
      clear hb
      have hs3 := hbb.size
      replace h := h.below hbb (by omega)
      replace ks := ks.below hbb (by omega)
      replace ki := ki.below hbb (by omega)
      replace ko := ko.below hbb (by omega)
      replace hB := hB.trans (hbb.mono (by omega))
      clear hbb
      have HO := hide hown
      clear hown
      go_wp2_with fail
      go_ret2
      exact ⟨_, retc E.out.1, by rw [E.out.2]; exact HO.out.mono (by omega) (Nat.le_refl _), hB⟩
    · have e2 : inR i 0 ((l.length : Int) - 1) = false := by simpa using e2
      have E : Hid (cdN l i = 2 ∧ nbL l i = []) := hide ⟨(cdN_far e1 e2), by unfold nbL; rw [(cdN_far e1 e2)]; rfl⟩
      go_enter Try.func40, Try.ntmps40
      go_wp2_with fail
      obtain ⟨W0, hW0⟩ : ∃ W0 : World, W0 = ((w.alloc (.cells #[.slice A n c] 36)).alloc (.cells #[.int .i64 i] 2)) := ⟨_, rfl⟩
      rw [← hW0]
      have ks : Box W0 (w.heap.size) [.slice A n c] := by rw [hW0]; exact (box_at _ _ _ _ (by simp)).alloc (by simp) _
      have ki : Box W0 (w.heap.size + 1) [.int .i64 i] := by rw [hW0]; exact box_at _ _ _ _ (by simp)
      have hB : Below w.heap.size w W0 := by rw [hW0]; exact (by repeat (first | exact Below.refl _ _ | refine Below.drew ?_ | refine Below.alloc ?_ (by first | (simp; done) | (simp; omega)) _))
      have hs0 : w.heap.size + 2 ≤ W0.heap.size := by rw [hW0]; first | (simp; done) | (simp; omega)
      clear hW0
      replace h := h.below hB (by omega)
      refine (craneCode_any A n c lo hi own l hn HCH.out HNM.out _ h (by omega) hnc i).mono ?_
      rintro e w1 ⟨rfl, hb⟩
      have hbb : Below W0.heap.size W0 w1 := Below.trans (by repeat (first | exact Below.refl _ _ | refine Below.drew ?_ | refine Below.alloc ?_ (by first | (simp; done) | (simp; omega)) _)) (Below.mono hb (by simp))
      clear hb
      have hs1 := hbb.size
      replace h := h.below hbb (by omega)
      replace ks := ks.below hbb (by omega)
      replace ki := ki.below hbb (by omega)
      replace hB := hB.trans (hbb.mono (by omega))
      clear hbb
      rw [E.out.1]
      go_wp2_with fail
      go_ret2
      exact ⟨_, retc E.out.1, by rw [E.out.2]; exact Own.of_owns (World.ownsRow_nil _ _ _ _), hB⟩
  · have e1 : siteB l = false := by simpa using e1
    have E : Hid (cdN l i = 1 ∧ nbL l i = []) := hide ⟨(cdN_bad e1), by unfold nbL; rw [(cdN_bad e1)]; rfl⟩
    go_enter Try.func40, Try.ntmps40
    go_wp2_with fail
    obtain ⟨W0, hW0⟩ : ∃ W0 : World, W0 = ((w.alloc (.cells #[.slice A n c] 36)).alloc (.cells #[.int .i64 i] 2)) := ⟨_, rfl⟩
    rw [← hW0]
    have ks : Box W0 (w.heap.size) [.slice A n c] := by rw [hW0]; exact (box_at _ _ _ _ (by simp)).alloc (by simp) _
    have ki : Box W0 (w.heap.size + 1) [.int .i64 i] := by rw [hW0]; exact box_at _ _ _ _ (by simp)
    have hB : Below w.heap.size w W0 := by rw [hW0]; exact (by repeat (first | exact Below.refl _ _ | refine Below.drew ?_ | refine Below.alloc ?_ (by first | (simp; done) | (simp; omega)) _))
    have hs0 : w.heap.size + 2 ≤ W0.heap.size := by rw [hW0]; first | (simp; done) | (simp; omega)
    clear hW0
    replace h := h.below hB (by omega)
    refine (craneCode_any A n c lo hi own l hn HCH.out HNM.out _ h (by omega) hnc i).mono ?_
    rintro e w1 ⟨rfl, hb⟩
    have hbb : Below W0.heap.size W0 w1 := Below.trans (by repeat (first | exact Below.refl _ _ | refine Below.drew ?_ | refine Below.alloc ?_ (by first | (simp; done) | (simp; omega)) _)) (Below.mono hb (by simp))
    clear hb
    have hs1 := hbb.size
    replace h := h.below hbb (by omega)
    replace ks := ks.below hbb (by omega)
    replace ki := ki.below hbb (by omega)
    replace hB := hB.trans (hbb.mono (by omega))
    clear hbb
    rw [E.out.1]
    go_wp2_with fail
    go_ret2
    exact ⟨_, retc E.out.1, by rw [E.out.2]; exact Own.of_owns (World.ownsRow_nil _ _ _ _), hB⟩

end Go.Proofs.Ytmpccakgpahpoaa
