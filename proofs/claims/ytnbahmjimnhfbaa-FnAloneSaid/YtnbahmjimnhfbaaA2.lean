/-
  WHAT THE LAWS OVER A DRAWN TABLE CALL: lengths of bytes, numbers from bytes, the table, allowed steps. No condition but those that each theorem names.
-/
import Derived.Test.YtnbahmjimnhfbaaDrawT
import Derived.Test.YtnbahmjimnhfbaaStp
import Derived.Test.YtnbahmjimnhfbaaOpnByte
namespace Go.Proofs.Ytnbahmjimnhfbaa
open Go.RowKit
set_option linter.unusedVariables false
set_option linter.unusedSimpArgs false

theorem a2Long_no (A A1 : Option Addr) (n c n1 c1 : Nat) (hn : n ≤ 3000) (hn1 : n1 ≤ 3000) (w : World) : Calls Try.prog 20 #[.slice A n c, .slice A1 n1 c1] w fun e w' => e = .returned (.bool false) ∧ w = w' := by
  go_enter Try.func20, Try.ntmps20
  go_wp2
  go_ret
  exact ⟨ret_bool (by simp; omega), rfl⟩
theorem a2Long_yes (A A1 : Option Addr) (n c n1 c1 : Nat) (hn : 3000 < n ∨ 3000 < n1) (w : World) : Calls Try.prog 20 #[.slice A n c, .slice A1 n1 c1] w fun e w' => e = .returned (.bool true) ∧ w = w' := by
  by_cases h : 3000 < n
  · go_enter Try.func20, Try.ntmps20
    go_wp2
    go_ret
    exact ⟨ret_bool (by simp), rfl⟩
  · have h1 : 3000 < n1 := by omega
    go_enter Try.func20, Try.ntmps20
    go_wp2
    go_ret
    exact ⟨ret_bool (by simp; omega), rfl⟩
theorem a2At_any (A : Option Addr) (n c lo hi : Nat) (bs : List Value) (k : Nat) (hk : k < 8) (hn : n ≤ maxLen) (w : World) (h : Rd w lo hi 1 A n bs) (hv : ∀ v ∈ bs, ∃ x : Int, v = .int .u8 x ∧ 0 ≤ x ∧ x ≤ 255) :
    Calls Try.prog 22 #[.slice A n c, .int .i64 k, .int .i64 24] w fun e w' => ∃ j : Nat, j < 24 ∧ e = .returned (.int .i64 j) ∧ w = w' := by
  by_cases hkn : k < n
  · obtain ⟨g, off, v, rfl, _, _, hv1, hc⟩ := h.at_ hkn
    obtain ⟨x, rfl, x0, x1⟩ := hv v (List.mem_of_getElem? hv1)
    have HV := hide hv
    clear h hv hv1
    have m0 : 0 ≤ x % 24 := by omega
    obtain ⟨j, hj⟩ : ∃ j : Nat, (j : Int) = x % 24 := ⟨(x % 24).toNat, by omega⟩
    have HJ := hide hj
    have hj24 : j < 24 := by omega
    clear hj
    go_enter Try.func22, Try.ntmps22
    go_wp2
    go_ret
    exact ⟨j, hj24, by rw [HJ.out]; rfl, rfl⟩
  · have HV := hide hv
    have HR := hide h
    clear h hv
    have hk2 : (n : Int) ≤ k := by omega
    go_enter Try.func22, Try.ntmps22
    go_wp2
    go_ret
    exact ⟨0, by omega, rfl, rfl⟩
theorem A2Table_g (A : Option Addr) (n c hi : Nat) (bs : List Value) (hn : n ≤ maxLen) (w : World) (h : Rd w 0 hi 1 A n bs) (hhi : hi ≤ w.heap.size) (hv : ∀ v ∈ bs, ∃ x : Int, v = .int .u8 x ∧ 0 ≤ x ∧ x ≤ 255) :
    Calls Try.prog 21 #[.slice A n c] w fun e w' => ∃ v, e = .returned v ∧ TabV w' w.heap.size w'.heap.size v 24 ∧ Below w.heap.size w w' := by
  have HR := hide h
  have HV := hide hv
  clear h hv
  go_enter Try.func21, Try.ntmps21
  go_wp2_with fail
  refine (l00From_any A n c hi bs hn _ HR.out hhi HV.out).mono ?_
  rintro e w1 ⟨rfl, S1, hb1⟩
  have hs1 := hb1.size
  go_wp2_with fail
  refine (l15Draw_g w.heap.size 0 (by omega) _ S1).mono ?_
  rintro e w2 ⟨v, rfl, hv2, S2, t2⟩
  go_wp2_with fail
  go_ret
  exact ⟨_, rfl, hv2.mono hs1 (Nat.le_refl _), hb1.trans (t2.below (by omega))⟩
theorem RdDn {w : World} {lo hi m n : Nat} {A : Option Addr} {us : List Value} (h : Rd w lo hi m A n us) (k : Nat) : Rd (w.drewN k) lo hi m A n us := h
theorem l15Ok_yes (A : Option Addr) (n c lo hi : Nat) (T : List (List Bool)) (hm : n ≤ maxLen) (ok : okT T = true) (w : World) (h : RdSS w lo hi A n (rrBool T)) :
    Calls Try.prog 55 #[.slice A n c] w fun e w' => e = .returned (.bool true) ∧ w' = w := by
  have := l15Ok_any A n c lo hi T hm w h
  rw [ok] at this; exact this
theorem okTab_yes (A : Option Addr) (n c lo hi : Nat) (T : List (List Bool)) (hm : n ≤ maxLen) (ok : okT T = true) (w : World) (h : RdSS w lo hi A n (rrBool T)) :
    Calls Try.prog 56 #[.slice A n c] w fun e w' => e = .returned (.bool true) ∧ w' = w := by
  have := implValidTable_any A n c lo hi T hm w h
  rw [ok] at this; exact this
theorem stV_yes {x y : Int} (hx : dirOk x) (hy : dirOk y) : stV [x, y] = true := by
  rw [stV_pair, inR_mk hx.1 hx.2, inR_mk hy.1 hy.2]; rfl
theorem l17State_yes (A : Option Addr) (c lo hi : Nat) (x y : Int) (hx : dirOk x) (hy : dirOk y) (w : World) (h : Rd w lo hi 1 A 2 (rInt64 [x, y])) :
    Calls Try.prog 53 #[.slice A 2 c] w fun e w' => e = .returned (.bool true) ∧ w' = w := by
  have := l17State_any A 2 c lo hi [x, y] rfl (by unfold maxLen; omega) w h
  rw [stV_yes hx hy] at this; exact this
theorem isState_yes (A : Option Addr) (c lo hi : Nat) (x y : Int) (hx : dirOk x) (hy : dirOk y) (w : World) (h : Rd w lo hi 1 A 2 (rInt64 [x, y])) :
    Calls Try.prog 49 #[.slice A 2 c] w fun e w' => e = .returned (.bool true) ∧ w' = w := by
  have := isState_any A 2 c lo hi [x, y] rfl (by unfold maxLen; omega) w h
  rw [stV_yes hx hy] at this; exact this

set_option maxRecDepth 100000 in
set_option maxHeartbeats 4000000 in
theorem specStepAllowed_ok (A A1 A2 : Option Addr) (n c c1 c2 lo hi l1 h1 l2 h2 : Nat) (T : List (List Bool)) (hm : n ≤ maxLen) (ok : okT T = true) (x y z u : Int) (hx : dirOk x) (hy : dirOk y) (hz : dirOk z) (hu : dirOk u) (w : World) (h : RdSS w lo hi A n (rrBool T)) (hs : Rd w l1 h1 1 A1 2 (rInt64 [x, y])) (ht : Rd w l2 h2 1 A2 2 (rInt64 [z, u])) :
    Calls Try.prog 26 #[.slice A n c, .slice A1 2 c1, .slice A2 2 c2] w fun e w' => e = .returned (.bool (stp T x y z u)) ∧ Below w.heap.size w w' := by
  obtain ⟨bs, os, rfl, _, _, s0, s1⟩ := st_cells hs
  obtain ⟨bt, ot, rfl, _, _, t0, t1⟩ := st_cells ht
  obtain ⟨hx0, hx1⟩ := id hx
  obtain ⟨hy0, hy1⟩ := id hy
  obtain ⟨hz0, hz1⟩ := id hz
  obtain ⟨hu0, hu1⟩ := id hu
  have H2 := hide h
  have HO := hide ok
  have HS := hide hs
  have HT := hide ht
  clear h ok hs ht
  go_enter Try.func26, Try.ntmps26
  go_wp2_with fail
  go_quiet (first | (go_at_call 55; with_reducible exact Calls.quiet_of_same (l15Ok_yes A n c lo hi T hm HO.out _ (RdSS.drewN H2.out _))) | (go_at_call 53; with_reducible first | exact Calls.quiet_of_same (l17State_yes (some ⟨bs, os, none⟩) c1 l1 h1 x y hx hy _ (RdDn HS.out _)) | exact Calls.quiet_of_same (l17State_yes (some ⟨bt, ot, none⟩) c2 l2 h2 z u hz hu _ (RdDn HT.out _))) | (go_at_call 68; with_reducible exact Calls.quiet_of_same (l17Step_any A n c lo hi T HO.out x y z u hx0 hx1 hy0 hy1 hz0 hz1 hu0 hu1 _ (RdSS.drewN H2.out _))))
  go_wp2_with fail
  go_ret
  exact ⟨rfl, Joins.below_draws _ _ _⟩

set_option maxRecDepth 100000 in
set_option maxHeartbeats 4000000 in
theorem implStepAllowed_ok (A A1 A2 : Option Addr) (n c c1 c2 lo hi l1 h1 l2 h2 : Nat) (T : List (List Bool)) (hm : n ≤ maxLen) (ok : okT T = true) (x y z u : Int) (hx : dirOk x) (hy : dirOk y) (hz : dirOk z) (hu : dirOk u) (w : World) (h : RdSS w lo hi A n (rrBool T)) (hhi : hi ≤ w.heap.size) (hs : Rd w l1 h1 1 A1 2 (rInt64 [x, y])) (hh1 : h1 ≤ w.heap.size) (ht : Rd w l2 h2 1 A2 2 (rInt64 [z, u])) (hh2 : h2 ≤ w.heap.size) :
    Calls Try.prog 27 #[.slice A n c, .slice A1 2 c1, .slice A2 2 c2] w fun e w' => e = .returned (.bool (stp T x y z u)) ∧ Below w.heap.size w w' := by
  have H2 := hide h
  have HO := hide ok
  have HS := hide hs
  have HT := hide ht
  clear h ok hs ht
  go_enter Try.func27, Try.ntmps27
  go_wp2_with fail
  refine (okTab_yes A n c lo hi T hm HO.out _ H2.out).mono ?_
  rintro e w' ⟨rfl, hw⟩
  obtain rfl := hw.symm
  go_wp2_with fail
  refine (isState_yes A1 c1 l1 h1 x y hx hy _ HS.out).mono ?_
  rintro e w' ⟨rfl, hw⟩
  obtain rfl := hw.symm
  go_wp2_with fail
  refine (isState_yes A2 c2 l2 h2 z u hz hu _ HT.out).mono ?_
  rintro e w' ⟨rfl, hw⟩
  obtain rfl := hw.symm
  go_wp2_with fail
  refine (allowed_any A A1 A2 n c c1 c2 lo hi l1 h1 l2 h2 T HO.out x y z u hx.1 hx.2 hy.1 hy.2 hz.1 hz.2 hu.1 hu.2 _ H2.out hhi HS.out hh1 HT.out hh2).mono ?_
  rintro e w' ⟨rfl, hb⟩
  go_wp2_with fail
  go_ret
  exact ⟨rfl, hb⟩
end Go.Proofs.Ytnbahmjimnhfbaa
