/-
  WorkAllowed: the reference's and the program's. No condition but those that each theorem names.
-/
import Derived.Test.YtjepeibajnlgeaaAlarm2
namespace Go.Proofs.Ytjepeibajnlgeaa
open Go.RowKit
set_option linter.unusedVariables false

def hitP (a : Prs) (s : Int) : Bool := a.any fun p => inR s p.1 p.2
theorem hitP_yes {a : Prs} {s : Int} {k : Nat} (hk : k < a.length) (h : inR s a[k].1 a[k].2 = true) : hitP a s = true := by
  unfold hitP; rw [List.any_eq_true]; exact ⟨a[k], List.getElem_mem _, h⟩
theorem hitP_no {a : Prs} {s : Int} (h : ∀ k (hk : k < a.length), inR s a[k].1 a[k].2 = false) : hitP a s = false := by
  unfold hitP; rw [List.any_eq_false]
  intro p hp
  obtain ⟨i, hi, rfl⟩ := List.mem_iff_getElem.1 hp
  simp [h i hi]
def woC (l : Prs) (limit calm s : Int) : Int := if alCode l limit calm = 0 then if inR s 0 1000000 = true then 0 else 2 else alCode l limit calm
def woB (l : Prs) (limit calm s : Int) : Bool := if woC l limit calm s = 0 then !(hitP (alm limit calm l) s) else false
/-- The cells of the k-th pair. -/
theorem pair_cells {w : World} {lo hi n : Nat} {A : Option Addr} {a : Prs} (h : RdSS w lo hi A n (rP a)) {k : Nat} (hk : k < a.length) (hn : a.length = n) :
    ∃ b off b2 off2 c2, A = some ⟨b, off, none⟩ ∧ b < hi ∧ b2 < hi ∧ w.cell? ⟨b, off + k, none⟩ = some (.slice (some ⟨b2, off2, none⟩) 2 c2) ∧ w.cell? ⟨b2, off2, none⟩ = some (.int .i64 a[k].1) ∧ w.cell? ⟨b2, off2 + 1, none⟩ = some (.int .i64 a[k].2) := by
  obtain ⟨b, off, Ai, ni, ci, hA, l1, l2, hc, _, hni, hr⟩ := h.at_ (i := k) (by omega)
  rw [rP_at a k hk] at hni hr
  have h2 : ni = 2 := hni
  subst h2
  obtain ⟨b2, off2, hAi, m1, m2, hb⟩ := hr.2 (by omega)
  subst hAi
  exact ⟨b, off, b2, off2, ci, hA, l2, m2, hc, hb 0 _ rfl, hb 1 _ rfl⟩
theorem ret_two {a : Bool} {b : Int} {x : Bool} {y : Int} (h1 : a = x) (h2 : b = y) : Ending.returned (.tuple #[.bool a, .int .i64 b]) = .returned (.tuple #[.bool x, .int .i64 y]) := by rw [h1, h2]

theorem l00In_val {n lo hi : Int} {b : Bool} (h : inR n lo hi = b) {w : World} : Calls Try.prog 45 #[.int .i64 n, .int .i64 lo, .int .i64 hi] w fun e w' => e = .returned (.bool b) ∧ w' = w := by subst h; exact l00In_any n lo hi w
theorem within_val {n lo hi : Int} {b : Bool} (h : inR n lo hi = b) {w : World} : Calls Try.prog 37 #[.int .i64 n, .int .i64 lo, .int .i64 hi] w fun e w' => e = .returned (.bool b) ∧ w' = w := by subst h; exact within_any n lo hi w

set_option maxRecDepth 100000 in
set_option maxHeartbeats 2000000 in
theorem specWorkAllowed_any (A : Option Addr) (n c lo hi : Nat) (l : Prs) (limit calm s : Int) (hn : n ≤ 1048576) (w : World) (hl : l.length = n) (h : Rd w lo hi 2 A n (rReading l)) (hhi : hi ≤ w.heap.size) :
    Calls Try.prog 24 #[.slice A n c, .int .i64 limit, .int .i64 calm, .int .i64 s] w fun e w' => e = .returned (.tuple #[.bool (woB l limit calm s), .int .i64 (woC l limit calm s)]) ∧ Below w.heap.size w w' := by
  have H := hide h
  have HL := hide hl
  clear h hl
  obtain ⟨cc, hcc⟩ : ∃ cc, alCode l limit calm = cc := ⟨_, rfl⟩
  have HC := hide hcc
  by_cases hz : cc = 0
  · subst hz
    obtain ⟨e0, ⟨e1, e2⟩, e3, e4⟩ := alCode_zero HC.out
    have HV := hide (validR_sec e0)
    clear e0
    cases es : inR s 0 1000000
    · have HW : Hid (woC l limit calm s = 2) := hide (by unfold woC; rw [hcc, es]; rfl)
      have HB : Hid (woB l limit calm s = false) := hide (by unfold woB; rw [HW.out]; rfl)
      clear hcc
      go_enter Try.func24, Try.ntmps24
      go_wp2_with fail
      refine (l21Alarm_any A n c lo hi l limit calm hn _ HL.out H.out hhi).mono ?_
      rintro e w1 ⟨rfl, hb1⟩
      rw [HC.out]
      have hs1 := hb1.size
      go_wp2_with (go_at_call 45; refine (l00In_any _ _ _ _).mono ?_; rintro e w' ⟨rfl, hw⟩; obtain rfl := hw.symm; rw [es])
      go_ret2
      exact ⟨ret_two HB.out.symm HW.out.symm, hb1⟩
    · have HW : Hid (woC l limit calm s = 0) := hide (by unfold woC; rw [hcc, es]; rfl)
      have HB : Hid (woB l limit calm s = !(hitP (alm limit calm l) s)) := hide (by unfold woB; rw [HW.out]; rfl)
      clear hcc
      go_enter Try.func24, Try.ntmps24
      go_wp2_with fail
      refine (l21Alarm_any A n c lo hi l limit calm hn _ HL.out H.out hhi).mono ?_
      rintro e w1 ⟨rfl, hb1⟩
      rw [HC.out]
      have hs1 := hb1.size
      go_wp2_with (go_at_call 45; refine (l00In_any _ _ _ _).mono ?_; rintro e w' ⟨rfl, hw⟩; obtain rfl := hw.symm; rw [es])
      refine (l21Times_any A n c lo hi l limit calm hn HV.out e3 e4 _ HL.out (H.out.below hb1 hhi) (by omega)).mono ?_
      rintro e w2 ⟨v, rfl, hown, hb2⟩
      have hb12 := hb1.trans (hb2.mono hs1)
      have hs2 := hb2.size
      obtain ⟨Av, cv, rfl, hncv, hcmv, hrd⟩ := hown.rd
      obtain ⟨m, hm⟩ : ∃ m, (alm limit calm l).length = m := ⟨_, rfl⟩
      have hml : m ≤ n := by rw [← hm, ← HL.out]; exact almTo_len limit calm l l.length
      have HM := hide hm
      rw [hm] at hrd
      have HRD := hide hrd
      unfold maxLen at hcmv
      rw [hm]
      clear hown hrd hb1 hb2 hm hncv
      obtain ⟨wo, hwo⟩ : ∃ wo : World, wo = w2 := ⟨_, rfl⟩
      subst hwo
      go_wp2_with fail
      go_loopw [12] (fun i wr => ∃ k : Nat, k ≤ m ∧ i = .int .i64 k ∧ Hid (∀ j (hj : j < (alm limit calm l).length), j < k → inR s (alm limit calm l)[j].1 (alm limit calm l)[j].2 = false) ∧ Below wo.heap.size wo wr) (fun i _ => m - (intOf i).toNat)
      case atStart => exact ⟨0, by omega, rfl, hide (by intro j _ h; omega), Below.refl _ _⟩
      case round =>
        obtain ⟨k, hk, rfl, HP, hbr⟩ := hrel
        by_cases hlt : k < m
        · have hka : k < (alm limit calm l).length := by rw [HM.out]; exact hlt
          obtain ⟨b, off, b2, off2, c2, rfl, l1, l2, k0, k1, k2⟩ := pair_cells (HRD.out.below hbr (by omega)) hka HM.out
          cases eh : inR s (alm limit calm l)[k].1 (alm limit calm l)[k].2
          all_goals
            generalize hp : (alm limit calm l)[k].1 = p at *
            generalize hq : (alm limit calm l)[k].2 = q at *
            have HPP := hide hp
            have HQQ := hide hq
            clear hp hq
            have HE := hide eh
            clear eh
            go_wp2_with fail
            go_quiet ((go_at_call 45; exact Calls.quiet_of_same (l00In_val HE.out)))
            go_wp2_with fail
          · go_roundw
            case rel =>
              refine ⟨k + 1, by omega, by go_num, hide ?_, hbr.trans (Joins.below_draws _ _ _)⟩
              intro j hj hjk
              by_cases e : j = k
              · subst e; rw [HPP.out, HQQ.out]; exact HE.out
              · exact HP.out j hj (by omega)
            case measure => simp [intOf]; omega
          · have HHIT := hide (hitP_yes hka (by rw [HPP.out, HQQ.out]; exact HE.out))
            go_ret2
            exact ⟨ret_two (by rw [HB.out, HHIT.out]; rfl) HW.out.symm, hb12.trans ((hbr.trans (Joins.below_draws _ _ _)).mono (by omega))⟩
        · obtain rfl : k = m := by omega
          have HHIT := hide (hitP_no (a := alm limit calm l) (s := s) (fun j hj => HP.out j hj (by have := HM.out; omega)))
          go_wp2_with fail
          go_ret2
          exact ⟨ret_two (by rw [HB.out, HHIT.out]; rfl) HW.out.symm, hb12.trans (hbr.mono (by omega))⟩
  · have hz2 : (cc == 0) = false := by simpa using hz
    have hz3 : (cc != 0) = true := by simpa using hz
    have HW : Hid (woC l limit calm s = cc) := hide (by unfold woC; rw [hcc, if_neg hz])
    have HB : Hid (woB l limit calm s = false) := hide (by unfold woB; rw [HW.out, if_neg hz])
    clear hcc
    go_enter Try.func24, Try.ntmps24
    go_wp2_with fail
    refine (l21Alarm_any A n c lo hi l limit calm hn _ HL.out H.out hhi).mono ?_
    rintro e w1 ⟨rfl, hb1⟩
    rw [HC.out]
    have hs1 := hb1.size
    go_wp2_with fail
    go_ret2
    exact ⟨ret_two HB.out.symm HW.out.symm, hb1⟩

set_option maxHeartbeats 1000000 in
theorem inPair_any {s p q : Int} {hit : Bool} (h : inR s p q = hit) (b2 off2 c2 bx : Nat) (w : World) (k1 : w.cell? ⟨b2, off2, none⟩ = some (.int .i64 p)) (k2 : w.cell? ⟨b2, off2 + 1, none⟩ = some (.int .i64 q)) (k0 : w.cell? ⟨bx, 0, none⟩ = some (.int .i64 s)) :
    Calls Try.prog 52 #[.slice (some ⟨b2, off2, none⟩) 2 c2, .pointer (some ⟨bx, 0, none⟩)] w fun e w' => e = .returned (.bool hit) ∧ Below w.heap.size w w' := by
  have H := hide h
  clear h
  go_enter Try.func52, Try.ntmps52
  go_wp2_with fail
  go_quiet ((go_at_call 37; exact Calls.quiet_of_same (within_val H.out)))
  go_wp2_with fail
  go_ret
  exact ⟨rfl, Joins.below_draws _ _ _⟩

set_option maxHeartbeats 1000000 in
theorem indexPair_any (A : Option Addr) (n c lo hi : Nat) (a : Prs) (s : Int) (bx : Nat) (hm : n ≤ maxLen) (ha : a.length = n) (w : World) (h : RdSS w lo hi A n (rP a)) (hhi : hi ≤ w.heap.size) (k0 : w.cell? ⟨bx, 0, none⟩ = some (.int .i64 s)) (hbx : bx < w.heap.size) :
    Calls Try.prog 60 #[.slice A n c, .func (.func 52) #[] #[.pointer (some ⟨bx, 0, none⟩)]] w fun e w' => ∃ r : Int, e = .returned (.int .i64 r) ∧ decide (0 ≤ r) = hitP a s ∧ Below w.heap.size w w' := by
  unfold maxLen at hm
  have H2 := hide h
  have HA := hide ha
  clear h ha
  go_enter Try.func60, Try.ntmps60
  go_wp2
  go_loopw [5, 8] (fun _ i wr => ∃ k : Nat, k ≤ n ∧ i = .int .i64 k ∧ Hid (∀ j (hj : j < a.length), j < k → inR s a[j].1 a[j].2 = false) ∧ Below w.heap.size w wr) (fun _ i _ => n - (intOf i).toNat)
  case atStart => exact ⟨0, by omega, rfl, hide (by intro j _ hj; omega), Below.refl _ _⟩
  case round =>
    obtain ⟨k, hk, rfl, HP, hbr⟩ := hrel
    by_cases hlt : k < n
    · have hka : k < a.length := by rw [HA.out]; exact hlt
      obtain ⟨b, off, b2, off2, c2, rfl, l1, l2, kc, k1, k2⟩ := pair_cells (H2.out.below hbr hhi) hka HA.out
      have kx : wr.cell? ⟨bx, 0, none⟩ = some (.int .i64 s) := (hbr.cell (p := ⟨bx, 0, none⟩) hbx).trans k0
      cases eh : inR s a[k].1 a[k].2
      all_goals
        have HE := hide eh
        clear eh
        generalize hp : a[k].1 = p at *
        generalize hq : a[k].2 = q at *
        have HPP := hide hp
        have HQQ := hide hq
        clear hp hq
        go_wp2_with fail
        refine (inPair_any HE.out b2 off2 c2 bx _ k1 k2 kx).mono ?_
        rintro e w2 ⟨rfl, hb2⟩
        have hb3 := hbr.trans (hb2.mono hbr.size)
        go_wp2_with fail
      · go_roundw
        case rel =>
          refine ⟨k + 1, by omega, by go_num, hide ?_, hb3⟩
          intro j hj hjk
          by_cases e : j = k
          · subst e; rw [HPP.out, HQQ.out]; exact HE.out
          · exact HP.out j hj (by omega)
        case measure => simp [intOf]; omega
      · have HH := hide (hitP_yes hka (by rw [HPP.out, HQQ.out]; exact HE.out))
        go_ret
        exact ⟨_, rfl, by rw [HH.out]; simp, hb3⟩
    · obtain rfl : k = n := by omega
      have HH := hide (hitP_no (a := a) (s := s) (fun j hj => HP.out j hj (by have := HA.out; omega)))
      go_wp2_with fail
      go_ret
      exact ⟨_, rfl, by rw [HH.out]; simp, hbr⟩

set_option maxHeartbeats 400000 in
theorem somePair_any (A : Option Addr) (n c lo hi : Nat) (a : Prs) (s : Int) (bx : Nat) (hm : n ≤ maxLen) (ha : a.length = n) (w : World) (h : RdSS w lo hi A n (rP a)) (hhi : hi ≤ w.heap.size) (k0 : w.cell? ⟨bx, 0, none⟩ = some (.int .i64 s)) (hbx : bx < w.heap.size) :
    Calls Try.prog 50 #[.slice A n c, .func (.func 52) #[] #[.pointer (some ⟨bx, 0, none⟩)]] w fun e w' => e = .returned (.bool (hitP a s)) ∧ Below w.heap.size w w' := by
  have H2 := hide h
  have HK := hide k0
  clear h k0
  go_enter Try.func50, Try.ntmps50
  go_wp2_with fail
  refine (indexPair_any A n c lo hi a s bx hm ha _ H2.out hhi HK.out hbx).mono ?_
  rintro e w1 ⟨r, rfl, hr, hb1⟩
  have HR := hide hr
  clear hr
  go_wp2_with fail
  go_ret
  exact ⟨ret_bool (by rw [← HR.out]), hb1⟩

set_option maxRecDepth 100000 in
set_option maxHeartbeats 2000000 in
theorem implWorkAllowed_any (A : Option Addr) (n c lo hi : Nat) (l : Prs) (limit calm s : Int) (hn : n ≤ 1048576) (w : World) (hl : l.length = n) (h : Rd w lo hi 2 A n (rReading l)) (hhi : hi ≤ w.heap.size) :
    Calls Try.prog 25 #[.slice A n c, .int .i64 limit, .int .i64 calm, .int .i64 s] w fun e w' => e = .returned (.tuple #[.bool (woB l limit calm s), .int .i64 (woC l limit calm s)]) ∧ Below w.heap.size w w' := by
  have H := hide h
  have HL := hide hl
  clear h hl
  obtain ⟨cc, hcc⟩ : ∃ cc, alCode l limit calm = cc := ⟨_, rfl⟩
  have HC := hide hcc
  by_cases hz : cc = 0
  · subst hz
    obtain ⟨e0, ⟨e1, e2⟩, e3, e4⟩ := alCode_zero HC.out
    have HV := hide (validR_sec e0)
    clear e0
    cases es : inR s 0 1000000
    · have HW : Hid (woC l limit calm s = 2) := hide (by unfold woC; rw [hcc, es]; rfl)
      have HB : Hid (woB l limit calm s = false) := hide (by unfold woB; rw [HW.out]; rfl)
      clear hcc
      go_enter Try.func25, Try.ntmps25
      go_wp2_with fail
      refine (alarmCode_any A n c lo hi l limit calm hn _ HL.out (H.out.alloc hhi _) (by simp; omega)).mono ?_
      rintro e w1 ⟨rfl, hb1⟩
      rw [HC.out]
      have hs1 := hb1.size
      simp at hs1
      have k1 : w1.cell? ⟨w.heap.size, 0, none⟩ = some (.int .i64 s) := (hb1.cell (p := ⟨w.heap.size, 0, none⟩) (by simp)).trans (new_cell w #[.int .i64 s] _ 0)
      have HB1 := hide (((Below.refl _ _).alloc (Nat.le_refl _) _).trans (hb1.mono (by simp)))
      clear hb1
      go_wp2_with (go_at_call 37; refine (within_any _ _ _ _).mono ?_; rintro e w' ⟨rfl, hw⟩; obtain rfl := hw.symm; rw [es])
      go_ret2
      exact ⟨ret_two HB.out.symm HW.out.symm, HB1.out⟩
    · have HW : Hid (woC l limit calm s = 0) := hide (by unfold woC; rw [hcc, es]; rfl)
      have HB : Hid (woB l limit calm s = !(hitP (alm limit calm l) s)) := hide (by unfold woB; rw [HW.out]; rfl)
      clear hcc
      go_enter Try.func25, Try.ntmps25
      go_wp2_with fail
      refine (alarmCode_any A n c lo hi l limit calm hn _ HL.out (H.out.alloc hhi _) (by simp; omega)).mono ?_
      rintro e w1 ⟨rfl, hb1⟩
      rw [HC.out]
      have hs1 := hb1.size
      simp at hs1
      have k1 : w1.cell? ⟨w.heap.size, 0, none⟩ = some (.int .i64 s) := (hb1.cell (p := ⟨w.heap.size, 0, none⟩) (by simp)).trans (new_cell w #[.int .i64 s] _ 0)
      have HB1 := hide (((Below.refl _ _).alloc (Nat.le_refl _) _).trans (hb1.mono (by simp)))
      clear hb1
      go_wp2_with (go_at_call 37; refine (within_any _ _ _ _).mono ?_; rintro e w' ⟨rfl, hw⟩; obtain rfl := hw.symm; rw [es])
      refine (alarms_any A n c lo hi l limit calm hn HV.out e3 e4 _ HL.out (H.out.below HB1.out hhi) (by omega)).mono ?_
      rintro e w2 ⟨v, rfl, hown, hb2⟩
      have hs2 := hb2.size
      obtain ⟨Av, cv, rfl, hncv, hcmv, hrd⟩ := hown.rd
      have k2 := (hb2.cell (p := ⟨w.heap.size, 0, none⟩) (by show w.heap.size < _; omega)).trans k1
      have HRD := hide hrd
      have HB2 := hide (HB1.out.trans (hb2.mono (by omega)))
      clear hown hrd hb2 k1
      go_wp2_with fail
      refine (somePair_any Av _ cv _ _ (alm limit calm l) s w.heap.size (Nat.le_trans hncv hcmv) rfl _ HRD.out (Nat.le_refl _) k2 (by omega)).mono ?_
      rintro e w3 ⟨rfl, hb3⟩
      have HB3 := hide (HB2.out.trans (hb3.mono (by omega)))
      clear hb3
      go_wp2_with fail
      go_ret2
      exact ⟨ret_two HB.out.symm HW.out.symm, HB3.out⟩
  · have hz2 : (cc == 0) = false := by simpa using hz
    have hz3 : (cc != 0) = true := by simpa using hz
    have HW : Hid (woC l limit calm s = cc) := hide (by unfold woC; rw [hcc, if_neg hz])
    have HB : Hid (woB l limit calm s = false) := hide (by unfold woB; rw [HW.out, if_neg hz])
    clear hcc
    go_enter Try.func25, Try.ntmps25
    go_wp2_with fail
    refine (alarmCode_any A n c lo hi l limit calm hn _ HL.out (H.out.alloc hhi _) (by simp; omega)).mono ?_
    rintro e w1 ⟨rfl, hb1⟩
    rw [HC.out]
    have hs1 := hb1.size
    simp at hs1
    have k1 : w1.cell? ⟨w.heap.size, 0, none⟩ = some (.int .i64 s) := (hb1.cell (p := ⟨w.heap.size, 0, none⟩) (by simp)).trans (new_cell w #[.int .i64 s] _ 0)
    have HB1 := hide (((Below.refl _ _).alloc (Nat.le_refl _) _).trans (hb1.mono (by simp)))
    clear hb1
    go_wp2_with fail
    go_ret2
    exact ⟨ret_two HB.out.symm HW.out.symm, HB1.out⟩

end Go.Proofs.Ytjepeibajnlgeaa
