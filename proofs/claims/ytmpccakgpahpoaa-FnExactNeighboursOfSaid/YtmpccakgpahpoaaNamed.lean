/-
  CraneNamed: the reference's and the program's. No condition but those that each theorem names.
-/
import Derived.Test.YtmpccakgpahpoaaSite
namespace Go.Proofs.Ytmpccakgpahpoaa
open Go.RowKit
set_option linter.unusedVariables false

/-- The index of the first crane with a name, or -1. -/
def nmIx (l : List Crn) (s : ByteArray) : Int := if l.findIdx (fun c => c.nm.toList == s.toList) < l.length then (l.findIdx (fun c => c.nm.toList == s.toList) : Nat) else -1
theorem nmIx_at {l : List Crn} {s : ByteArray} {i : Nat} (hi : i < l.length) (h : (l[i].nm.toList == s.toList) = true) (hn : ∀ j (hj : j < l.length), j < i → (l[j].nm.toList == s.toList) = false) : nmIx l s = i := by
  have e : l.findIdx (fun c => c.nm.toList == s.toList) = i := (List.findIdx_eq hi).2 ⟨h, fun j hj => hn j (by omega) hj⟩
  unfold nmIx; rw [e, if_pos hi]
theorem nmIx_no {l : List Crn} {s : ByteArray} (hn : ∀ j (hj : j < l.length), (l[j].nm.toList == s.toList) = false) : nmIx l s = -1 := by
  have e : l.findIdx (fun c => c.nm.toList == s.toList) = l.length := List.findIdx_eq_length.2 (fun c hc => by obtain ⟨j, hj, rfl⟩ := List.mem_iff_getElem.1 hc; exact hn j hj)
  unfold nmIx; rw [e, if_neg (by omega)]
theorem nmIx_bd (l : List Crn) (s : ByteArray) : -1 ≤ nmIx l s ∧ nmIx l s ≤ l.length := by unfold nmIx; split <;> omega
def cnP (l : List Crn) (s : ByteArray) : Int × Int := if siteB l = true then (if nmIx l s < 0 then (0, 3) else (nmIx l s, 0)) else (0, 1)
theorem retp {a b : Int} {p : Int × Int} (h : p = (a, b)) : Ending.returned (.tuple #[.int .i64 a, .int .i64 b]) = .returned (.tuple #[.int .i64 p.1, .int .i64 p.2]) := by rw [h]
theorem more_ {n i : Nat} {P : (j : Nat) → j < n → Prop} (h : ∀ j (hj : j < n), j < i → P j hj) {hi : i < n} (hk : P i hi) : ∀ j (hj : j < n), j < i + 1 → P j hj := by
  intro j hj h1
  rcases Nat.lt_or_ge j i with h2 | h2
  · exact h j hj h2
  · obtain rfl : j = i := by omega
    exact hk

set_option maxRecDepth 100000 in
set_option maxHeartbeats 2000000 in
theorem l04Named_any (bs os : Nat) (A : Option Addr) (n c lo hi : Nat) (own : Bool) (l : List Crn) (s : ByteArray) (hn : n ≤ 1048576) (w : World) (hs : w.cell? ⟨bs, os, none⟩ = some (.slice A n c)) (h : RdC w lo hi own A n l) :
    Calls Try.prog 57 #[.pointer (some ⟨bs, os, none⟩), .string s] w fun e w' => e = .returned (.int .i64 (nmIx l s)) ∧ w = w' := by
  have H1 := hide h.length
  have H2 := hide h
  clear h
  go_enter Try.func57, Try.ntmps57
  go_wp2_with fail
  go_loop [5] (fun ii => ∃ i : Nat, i ≤ n ∧ ii = .int .i64 i ∧ Hid (∀ j (hj : j < l.length), j < i → (l[j].nm.toList == s.toList) = false)) (fun ii => n - (intOf ii).toNat)
  case atStart => exact ⟨0, by omega, rfl, hide (fun j _ hj => absurd hj (by omega))⟩
  case round =>
    obtain ⟨i, hi', rfl, HO⟩ := hrel
    by_cases hlt : i < n
    · have hil : i < l.length := by rw [H1.out]; exact hlt
      obtain ⟨b, off, Ai, ci, hA, _, _, c0, _, _, _, _, _, _, _, _⟩ := H2.out.at_ hil
      subst hA
      have x1 : (i : Int) < (n : Int) := by omega
      cases e1 : (l[i].nm.toList == s.toList)
      case true =>
        have E := hide (nmIx_at hil e1 HO.out)
        clear HO
        generalize l[i].nm = nm at *
        go_wp2_with fail
        go_ret
        exact ⟨ret_int E.out.symm, rfl⟩
      have E := hide (more_ (P := fun j hj => (l[j].nm.toList == s.toList) = false) HO.out (hi := hil) e1)
      clear HO
      generalize l[i].nm = nm at c0 e1
      go_wp2_with fail
      go_round
      case rel => exact ⟨i + 1, by omega, by go_num, E⟩
      case measure => simp [intOf]; omega
    · obtain rfl : i = n := by omega
      have E := hide (nmIx_no (fun j hj => HO.out j hj (by rw [H1.out] at hj; exact hj)))
      clear HO
      go_wp2_with fail
      go_ret
      exact ⟨ret_int E.out.symm, rfl⟩

set_option maxRecDepth 100000 in
set_option maxHeartbeats 2000000 in
theorem named1_any (nm s : ByteArray) (x y h j b : Int) (Ai : Option Addr) (ni ci p : Nat) (w : World) (hp : w.cell? ⟨p, 0, none⟩ = some (.string s)) (hpw : p < w.heap.size) :
    Calls Try.prog 96 #[.agg #[.string nm, .int .i64 x, .int .i64 y, .int .i64 h, .int .i64 j, .int .i64 b, .slice Ai ni ci], .pointer (some ⟨p, 0, none⟩)] w fun e w' => e = .returned (.bool (nm.toList == s.toList)) ∧ Below w.heap.size w w' := by
  go_enter Try.func96, Try.ntmps96
  go_wp2_with fail
  go_ret
  exact ⟨rfl, (Below.refl _ _).alloc (Nat.le_refl _) _⟩

set_option maxRecDepth 100000 in
set_option maxHeartbeats 2000000 in
theorem indexCrane_any (A : Option Addr) (n c lo hi p : Nat) (own : Bool) (l : List Crn) (s : ByteArray) (hn : n ≤ 1048576) (w : World) (hp : w.cell? ⟨p, 0, none⟩ = some (.string s)) (hpw : p < w.heap.size) (h : RdC w lo hi own A n l) (hhi : hi ≤ w.heap.size) :
    Calls Try.prog 95 #[.slice A n c, .func (.func 96) #[] #[.pointer (some ⟨p, 0, none⟩)]] w fun e w' => e = .returned (.int .i64 (nmIx l s)) ∧ Below w.heap.size w w' := by
  have H1 := hide h.length
  have H2 := hide h
  have HP := hide hp
  clear h hp
  go_enter Try.func95, Try.ntmps95
  go_wp2_with fail
  go_loopw [8] (fun ii wr => ∃ i : Nat, i ≤ n ∧ ii = .int .i64 i ∧ Hid (∀ j (hj : j < l.length), j < i → (l[j].nm.toList == s.toList) = false) ∧ Below w.heap.size w wr) (fun ii _ => n - (intOf ii).toNat)
  case atStart => exact ⟨0, by omega, rfl, hide (fun j _ hj => absurd hj (by omega)), Below.refl _ _⟩
  case round =>
    obtain ⟨i, hi', rfl, HO, hbr⟩ := hrel
    have hsz := hbr.size
    by_cases hlt : i < n
    · have hil : i < l.length := by rw [H1.out]; exact hlt
      obtain ⟨b, off, Ai, ci, hA, _, _, c0, c1, c2, c3, c4, c5, c6, _, _⟩ := (H2.out.below hbr hhi).at_ hil
      subst hA
      have hpp := (hbr.cell (p := ⟨p, 0, none⟩) hpw).trans HP.out
      have hpl : p < wr.heap.size := by omega
      have x1 : (i : Int) < (n : Int) := by omega
      cases e1 : (l[i].nm.toList == s.toList)
      case true =>
        have E := hide (nmIx_at hil e1 HO.out)
        clear HO
        generalize l[i].nm = nm at *
        generalize l[i].x = x at *
        generalize l[i].y = y at *
        generalize l[i].h = h at *
        generalize l[i].j = j at *
        generalize l[i].b = b' at *
        generalize l[i].ch.length = ni at *
        go_wp2_with fail
        refine (named1_any nm s x y h j b' Ai ni ci p _ hpp hpl).mono ?_
        rintro e w1 ⟨rfl, hb1⟩
        clear c0 c1 c2 c3 c4 c5 c6 hpp
        go_wp2_with fail
        go_ret
        exact ⟨ret_int E.out.symm, hbr.trans (hb1.mono hsz)⟩
      have E := hide (more_ (P := fun j hj => (l[j].nm.toList == s.toList) = false) HO.out (hi := hil) e1)
      clear HO
      generalize l[i].nm = nm at c0 e1
      generalize l[i].x = x at *
      generalize l[i].y = y at *
      generalize l[i].h = h at *
      generalize l[i].j = j at *
      generalize l[i].b = b' at *
      generalize l[i].ch.length = ni at *
      go_wp2_with fail
      refine (named1_any nm s x y h j b' Ai ni ci p _ hpp hpl).mono ?_
      rintro e w1 ⟨rfl, hb1⟩
      clear c0 c1 c2 c3 c4 c5 c6 hpp
      go_wp2_with fail
      go_roundw
      case rel => exact ⟨i + 1, by omega, by go_num, E, hbr.trans (hb1.mono hsz)⟩
      case measure => simp [intOf]; omega
    · obtain rfl : i = n := by omega
      have E := hide (nmIx_no (fun j hj => HO.out j hj (by rw [H1.out] at hj; exact hj)))
      clear HO
      go_wp2_with fail
      go_ret
      exact ⟨ret_int E.out.symm, hbr⟩

set_option maxRecDepth 100000 in
set_option maxHeartbeats 2000000 in
theorem named_any (A : Option Addr) (n c lo hi : Nat) (own : Bool) (l : List Crn) (s : ByteArray) (hn : n ≤ 1048576) (w : World) (h : RdC w lo hi own A n l) (hhi : hi ≤ w.heap.size) :
    Calls Try.prog 58 #[.agg #[.slice A n c], .string s] w fun e w' => e = .returned (.int .i64 (nmIx l s)) ∧ Below w.heap.size w w' := by
  have hb : ∀ o1 o2 : Obj, Below w.heap.size w ((w.alloc o1).alloc o2) := fun o1 o2 => ((Below.refl _ _).alloc (Nat.le_refl _) _).alloc (by simp) _
  have HR := hide (fun o1 o2 => h.below (hb o1 o2) hhi)
  have HB := hide hb
  clear hb h
  go_enter Try.func58, Try.ntmps58
  go_wp2_with fail
  refine (indexCrane_any A n c lo hi (w.heap.size + 1) own l s hn _ (by simp) (by simp) (HR.out _ _) (by simp; omega)).mono ?_
  rintro e w1 ⟨rfl, hb1⟩
  have hbb := (HB.out _ _).trans (hb1.mono (by simp; omega))
  clear hb1
  go_wp2_with fail
  go_ret
  exact ⟨rfl, hbb⟩

set_option maxRecDepth 100000 in
set_option maxHeartbeats 2000000 in
theorem specCraneNamed_any (A : Option Addr) (n c lo hi : Nat) (own : Bool) (l : List Crn) (hn : n ≤ 1048576) (hch : ∀ p ∈ l, p.ch.length ≤ 1048576) (hnm : ∀ p ∈ l, p.nm.size ≤ maxLen) (w : World) (h : RdC w lo hi own A n l) (hhi : hi ≤ w.heap.size) (s : ByteArray) :
    Calls Try.prog 21 #[.agg #[.slice A n c], .string s] w fun e w' => e = .returned (.tuple #[.int .i64 (cnP l s).1, .int .i64 (cnP l s).2]) ∧ Below w.heap.size w w' := by
  have HCH := hide hch
  have HNM := hide hnm
  clear hch hnm
  obtain ⟨W0, hW0⟩ : ∃ W0 : World, (w.alloc (.cells #[.slice A n c] 36)) = W0 := ⟨_, rfl⟩
  have hb0 : Below w.heap.size w W0 := by rw [← hW0]; exact (Below.refl _ _).alloc (Nat.le_refl _) _
  have hs0 : w.heap.size < W0.heap.size := by rw [← hW0]; simp
  have hc0 : W0.cell? ⟨w.heap.size, 0, none⟩ = some (.slice A n c) := by rw [← hW0]; exact new_cell _ _ _ 0
  have HR0 := hide (h.below hb0 hhi)
  have HC0 := hide hc0
  have HW0 := hide hW0
  have hh0 : hi ≤ W0.heap.size := by omega
  clear h hc0 hW0
  obtain ⟨k1, k2⟩ := nmIx_bd l s
  cases e1 : siteB l
  case false =>
    have E : Hid (cnP l s = (0, 1)) := hide (by simp [cnP, e1])
    go_enter Try.func21, Try.ntmps21
    go_wp2_with fail
    rw [HW0.out]
    refine (l04Site_any w.heap.size 0 A n c lo hi own l hn HCH.out HNM.out _ hs0 HC0.out HR0.out hh0).mono ?_
    rintro e w1 ⟨rfl, hb1⟩
    have hs1 := hb1.size
    have hc1 := (hb1.cell (p := ⟨w.heap.size, 0, none⟩) hs0).trans HC0.out
    rw [e1]
    clear hc1
    go_wp2_with fail
    go_ret2
    exact ⟨retp E.out, hb0.trans (hb1.mono (by omega))⟩
  obtain ⟨q, hq⟩ : ∃ q, nmIx l s = q := ⟨_, rfl⟩
  have HQ := hide hq
  rw [hq] at k1 k2
  clear hq
  by_cases hneg : q < 0
  · have E : Hid (cnP l s = (0, 3)) := hide (by simp [cnP, e1, HQ.out, hneg])
    go_enter Try.func21, Try.ntmps21
    go_wp2_with fail
    rw [HW0.out]
    refine (l04Site_any w.heap.size 0 A n c lo hi own l hn HCH.out HNM.out _ hs0 HC0.out HR0.out hh0).mono ?_
    rintro e w1 ⟨rfl, hb1⟩
    have hs1 := hb1.size
    have hc1 := (hb1.cell (p := ⟨w.heap.size, 0, none⟩) hs0).trans HC0.out
    rw [e1]
    go_wp2_with fail
    refine (l04Named_any w.heap.size 0 A n c lo hi own l s hn _ hc1 (HR0.out.below hb1 hh0)).mono ?_
    rintro e w' ⟨rfl, hw⟩
    obtain rfl := hw
    clear hc1
    rw [HQ.out]
    go_wp2_with fail
    go_ret2
    exact ⟨retp E.out, hb0.trans (hb1.mono (by omega))⟩
  · have E : Hid (cnP l s = (q, 0)) := hide (by simp [cnP, e1, HQ.out, hneg])
    go_enter Try.func21, Try.ntmps21
    go_wp2_with fail
    rw [HW0.out]
    refine (l04Site_any w.heap.size 0 A n c lo hi own l hn HCH.out HNM.out _ hs0 HC0.out HR0.out hh0).mono ?_
    rintro e w1 ⟨rfl, hb1⟩
    have hs1 := hb1.size
    have hc1 := (hb1.cell (p := ⟨w.heap.size, 0, none⟩) hs0).trans HC0.out
    rw [e1]
    go_wp2_with fail
    refine (l04Named_any w.heap.size 0 A n c lo hi own l s hn _ hc1 (HR0.out.below hb1 hh0)).mono ?_
    rintro e w' ⟨rfl, hw⟩
    obtain rfl := hw
    clear hc1
    rw [HQ.out]
    go_wp2_with fail
    go_ret2
    exact ⟨retp E.out, hb0.trans (hb1.mono (by omega))⟩

set_option maxRecDepth 100000 in
set_option maxHeartbeats 2000000 in
theorem implCraneNamed_any (A : Option Addr) (n c lo hi : Nat) (own : Bool) (l : List Crn) (hn : n ≤ 1048576) (hch : ∀ p ∈ l, p.ch.length ≤ 1048576) (hnm : ∀ p ∈ l, p.nm.size ≤ maxLen) (w : World) (h : RdC w lo hi own A n l) (hhi : hi ≤ w.heap.size) (s : ByteArray) (hnc : n ≤ c) :
    Calls Try.prog 22 #[.agg #[.slice A n c], .string s] w fun e w' => e = .returned (.tuple #[.int .i64 (cnP l s).1, .int .i64 (cnP l s).2]) ∧ Below w.heap.size w w' := by
  have HCH := hide hch
  have HNM := hide hnm
  clear hch hnm
  obtain ⟨W0, hW0⟩ : ∃ W0 : World, (w.alloc (.cells #[.slice A n c] 36)) = W0 := ⟨_, rfl⟩
  have hb0 : Below w.heap.size w W0 := by rw [← hW0]; exact (Below.refl _ _).alloc (Nat.le_refl _) _
  have hs0 : w.heap.size < W0.heap.size := by rw [← hW0]; simp
  have hc0 : W0.cell? ⟨w.heap.size, 0, none⟩ = some (.slice A n c) := by rw [← hW0]; exact new_cell _ _ _ 0
  have HR0 := hide (h.below hb0 hhi)
  have HC0 := hide hc0
  have HW0 := hide hW0
  have hh0 : hi ≤ W0.heap.size := by omega
  clear h hc0 hW0
  obtain ⟨k1, k2⟩ := nmIx_bd l s
  cases e1 : siteB l
  case false =>
    have E : Hid (cnP l s = (0, 1)) := hide (by simp [cnP, e1])
    go_enter Try.func22, Try.ntmps22
    go_wp2_with fail
    rw [HW0.out]
    refine (implValidSite_any A n c lo hi own l hn HCH.out HNM.out _ HR0.out hh0 hnc).mono ?_
    rintro e w1 ⟨rfl, hb1⟩
    have hs1 := hb1.size
    have hc1 := (hb1.cell (p := ⟨w.heap.size, 0, none⟩) hs0).trans HC0.out
    rw [e1]
    clear hc1
    go_wp2_with fail
    go_ret2
    exact ⟨retp E.out, hb0.trans (hb1.mono (by omega))⟩
  obtain ⟨q, hq⟩ : ∃ q, nmIx l s = q := ⟨_, rfl⟩
  have HQ := hide hq
  rw [hq] at k1 k2
  clear hq
  by_cases hneg : q < 0
  · have E : Hid (cnP l s = (0, 3)) := hide (by simp [cnP, e1, HQ.out, hneg])
    go_enter Try.func22, Try.ntmps22
    go_wp2_with fail
    rw [HW0.out]
    refine (implValidSite_any A n c lo hi own l hn HCH.out HNM.out _ HR0.out hh0 hnc).mono ?_
    rintro e w1 ⟨rfl, hb1⟩
    have hs1 := hb1.size
    have hc1 := (hb1.cell (p := ⟨w.heap.size, 0, none⟩) hs0).trans HC0.out
    rw [e1]
    go_wp2_with fail
    refine (named_any A n c lo hi own l s hn _ (HR0.out.below hb1 hh0) (by omega)).mono ?_
    rintro e w2 ⟨rfl, hb2⟩
    clear hc1
    rw [HQ.out]
    go_wp2_with fail
    go_ret2
    exact ⟨retp E.out, (hb0.trans (hb1.mono (by omega))).trans (hb2.mono (by omega))⟩
  · have E : Hid (cnP l s = (q, 0)) := hide (by simp [cnP, e1, HQ.out, hneg])
    go_enter Try.func22, Try.ntmps22
    go_wp2_with fail
    rw [HW0.out]
    refine (implValidSite_any A n c lo hi own l hn HCH.out HNM.out _ HR0.out hh0 hnc).mono ?_
    rintro e w1 ⟨rfl, hb1⟩
    have hs1 := hb1.size
    have hc1 := (hb1.cell (p := ⟨w.heap.size, 0, none⟩) hs0).trans HC0.out
    rw [e1]
    go_wp2_with fail
    refine (named_any A n c lo hi own l s hn _ (HR0.out.below hb1 hh0) (by omega)).mono ?_
    rintro e w2 ⟨rfl, hb2⟩
    clear hc1
    rw [HQ.out]
    go_wp2_with fail
    go_ret2
    exact ⟨retp E.out, (hb0.trans (hb1.mono (by omega))).trans (hb2.mono (by omega))⟩

end Go.Proofs.Ytmpccakgpahpoaa
