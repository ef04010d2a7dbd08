/-
  The program's LeastHeight: all directions, whether a height is hindered, the code of a site, a crane and a distance. No condition but those that each theorem names.
-/
import Derived.Test.YtajjophmngabbaaGreatDoorGi6
import Derived.Test.YtajjophmngabbaaGreatDoorGh
namespace Go.Proofs.YtajjophmngabbaaGreatDoor
open Go.RowKit
set_option linter.unusedVariables false
set_option linter.unusedSimpArgs false

theorem swl_all : swl 0 24 24 = dirL 24 := by decide +kernel

set_option maxRecDepth 100000 in
set_option maxHeartbeats 2000000 in
theorem allDirections_any (w : World) :
    Calls Tryz.prog 30 #[] w fun e w' => ∃ v, e = .returned v ∧ Own w' w.heap.size w'.heap.size 2 1 v 24 (rInt64 (dirL 24)) ∧ Below w.heap.size w w' := by
  have H := hide (swings_any 0 24 (by omega) (by omega) (by omega) (by omega) w)
  go_enter Tryz.func30, Tryz.ntmps30
  go_wp2_with fail
  refine H.out.mono ?_
  rintro e w1 ⟨v, rfl, ho, hb⟩
  rw [swl_all, dirL_len] at ho
  go_wp2_with fail
  go_ret
  exact ⟨_, rfl, ho, hb⟩

theorem abs_is {n s : Int} (h1 : -1000000000000000000 ≤ n) (h2 : n ≤ 1000000000000000000) (h : siz n = s) {w : World} : Calls Tryz.prog 33 #[.int .i64 n] w fun e w' => e = .returned (.int .i64 s) ∧ w' = w := by subst h; exact abs_any n h1 h2 w
theorem siz_lt {h hh s : Int} (hs : siz (h - hh) = s) : (decide (h - hh < 60) && decide (hh - h < 60)) = decide (s < 60) := by
  rw [← hs]
  unfold siz
  rw [← Bool.decide_and, decide_eq_decide]
  split <;> omega

set_option maxRecDepth 100000 in
set_option maxHeartbeats 2000000 in
theorem hinders_is {bm fi se r : Bool} {h hh : Int} (h0 : 0 ≤ h) (h1 : h ≤ 3000) (q0 : 0 ≤ hh) (q1 : hh ≤ 3000) (hr : hnd (bm, fi, se, hh) h = r) {w : World} :
    Calls Tryz.prog 20 #[.agg #[.bool bm, .bool fi, .bool se, .int .i64 hh], .int .i64 h] w fun e w' => e = .returned (.bool r) ∧ Below w.heap.size w w' := by
  obtain ⟨s, hs⟩ : ∃ s, siz (h - hh) = s := ⟨_, rfl⟩
  cases bm
  · cases fi
    · cases se
      · have hv := hr
        rw [hnd_is, siz_lt hs] at hv
        clear hr
        have HS := hide hs
        clear hs
        rcases (show h < hh ∨ h = hh ∨ hh < h by omega) with k | k | k
        · have k1 : decide (hh < h) = false := by simp; omega
          have k2 : decide (h < hh) = true := by simp; omega
          have HV := hide (show r = false by simpa [*] using hv)
          clear hv
          go_enter Tryz.func20, Tryz.ntmps20
          go_wp2_with fail
          go_ret
          exact ⟨ret_bool HV.out.symm, (Below.refl _ _).alloc (Nat.le_refl _) _⟩
        · subst k
          have HV := hide (show r = false by simpa [*] using hv)
          clear hv
          go_enter Tryz.func20, Tryz.ntmps20
          go_wp2_with fail
          go_ret
          exact ⟨ret_bool HV.out.symm, (Below.refl _ _).alloc (Nat.le_refl _) _⟩
        · have k1 : decide (h < hh) = false := by simp; omega
          have k2 : decide (hh < h) = true := by simp; omega
          have HV := hide (show r = false by simpa [*] using hv)
          clear hv
          go_enter Tryz.func20, Tryz.ntmps20
          go_wp2_with fail
          go_ret
          exact ⟨ret_bool HV.out.symm, (Below.refl _ _).alloc (Nat.le_refl _) _⟩
      · have hv := hr
        rw [hnd_is, siz_lt hs] at hv
        clear hr
        have HS := hide hs
        clear hs
        rcases (show h < hh ∨ h = hh ∨ hh < h by omega) with k | k | k
        · have k1 : decide (hh < h) = false := by simp; omega
          have k2 : decide (h < hh) = true := by simp; omega
          have HV := hide (show r = false by simpa [*] using hv)
          clear hv
          go_enter Tryz.func20, Tryz.ntmps20
          go_wp2_with fail
          go_ret
          exact ⟨ret_bool HV.out.symm, (Below.refl _ _).alloc (Nat.le_refl _) _⟩
        · subst k
          have HV := hide (show r = false by simpa [*] using hv)
          clear hv
          go_enter Tryz.func20, Tryz.ntmps20
          go_wp2_with fail
          go_ret
          exact ⟨ret_bool HV.out.symm, (Below.refl _ _).alloc (Nat.le_refl _) _⟩
        · have k1 : decide (h < hh) = false := by simp; omega
          have k2 : decide (hh < h) = true := by simp; omega
          have HV := hide (show r = true by simpa [*] using hv)
          clear hv
          go_enter Tryz.func20, Tryz.ntmps20
          go_wp2_with fail
          go_ret
          exact ⟨ret_bool HV.out.symm, (Below.refl _ _).alloc (Nat.le_refl _) _⟩
    · cases se
      · have hv := hr
        rw [hnd_is, siz_lt hs] at hv
        clear hr
        have HS := hide hs
        clear hs
        rcases (show h < hh ∨ h = hh ∨ hh < h by omega) with k | k | k
        · have k1 : decide (hh < h) = false := by simp; omega
          have k2 : decide (h < hh) = true := by simp; omega
          have HV := hide (show r = true by simpa [*] using hv)
          clear hv
          go_enter Tryz.func20, Tryz.ntmps20
          go_wp2_with fail
          go_ret
          exact ⟨ret_bool HV.out.symm, (Below.refl _ _).alloc (Nat.le_refl _) _⟩
        · subst k
          have HV := hide (show r = false by simpa [*] using hv)
          clear hv
          go_enter Tryz.func20, Tryz.ntmps20
          go_wp2_with fail
          go_ret
          exact ⟨ret_bool HV.out.symm, (Below.refl _ _).alloc (Nat.le_refl _) _⟩
        · have k1 : decide (h < hh) = false := by simp; omega
          have k2 : decide (hh < h) = true := by simp; omega
          have HV := hide (show r = false by simpa [*] using hv)
          clear hv
          go_enter Tryz.func20, Tryz.ntmps20
          go_wp2_with fail
          go_ret
          exact ⟨ret_bool HV.out.symm, (Below.refl _ _).alloc (Nat.le_refl _) _⟩
      · have hv := hr
        rw [hnd_is, siz_lt hs] at hv
        clear hr
        have HS := hide hs
        clear hs
        rcases (show h < hh ∨ h = hh ∨ hh < h by omega) with k | k | k
        · have k1 : decide (hh < h) = false := by simp; omega
          have k2 : decide (h < hh) = true := by simp; omega
          have HV := hide (show r = true by simpa [*] using hv)
          clear hv
          go_enter Tryz.func20, Tryz.ntmps20
          go_wp2_with fail
          go_ret
          exact ⟨ret_bool HV.out.symm, (Below.refl _ _).alloc (Nat.le_refl _) _⟩
        · subst k
          have HV := hide (show r = false by simpa [*] using hv)
          clear hv
          go_enter Tryz.func20, Tryz.ntmps20
          go_wp2_with fail
          go_ret
          exact ⟨ret_bool HV.out.symm, (Below.refl _ _).alloc (Nat.le_refl _) _⟩
        · have k1 : decide (h < hh) = false := by simp; omega
          have k2 : decide (hh < h) = true := by simp; omega
          have HV := hide (show r = true by simpa [*] using hv)
          clear hv
          go_enter Tryz.func20, Tryz.ntmps20
          go_wp2_with fail
          go_ret
          exact ⟨ret_bool HV.out.symm, (Below.refl _ _).alloc (Nat.le_refl _) _⟩
  · cases fi
    · cases se
      · have hv := hr
        rw [hnd_is, siz_lt hs] at hv
        clear hr
        have HS := hide hs
        clear hs
        cases g : decide (s < 60)
        · rw [g] at hv
          rcases (show h < hh ∨ h = hh ∨ hh < h by omega) with k | k | k
          · have k1 : decide (hh < h) = false := by simp; omega
            have k2 : decide (h < hh) = true := by simp; omega
            have HV := hide (show r = false by simpa [*] using hv)
            clear hv
            go_enter Tryz.func20, Tryz.ntmps20
            go_wp2_with fail
            refine (abs_is (by omega) (by omega) HS.out).mono ?_
            rintro e w1 ⟨rfl, hw⟩
            obtain rfl := hw.symm
            go_wp2_with fail
            go_ret
            exact ⟨ret_bool HV.out.symm, (Below.refl _ _).alloc (Nat.le_refl _) _⟩
          · exfalso
            have h0' : s = 0 := by rw [← HS.out, k, Int.sub_self]; rfl
            subst h0'
            simp at g
          · have k1 : decide (h < hh) = false := by simp; omega
            have k2 : decide (hh < h) = true := by simp; omega
            have HV := hide (show r = false by simpa [*] using hv)
            clear hv
            go_enter Tryz.func20, Tryz.ntmps20
            go_wp2_with fail
            refine (abs_is (by omega) (by omega) HS.out).mono ?_
            rintro e w1 ⟨rfl, hw⟩
            obtain rfl := hw.symm
            go_wp2_with fail
            go_ret
            exact ⟨ret_bool HV.out.symm, (Below.refl _ _).alloc (Nat.le_refl _) _⟩
        · rw [g] at hv
          have HV := hide (show r = true by simpa using hv)
          clear hv
          go_enter Tryz.func20, Tryz.ntmps20
          go_wp2_with fail
          refine (abs_is (by omega) (by omega) HS.out).mono ?_
          rintro e w1 ⟨rfl, hw⟩
          obtain rfl := hw.symm
          go_wp2_with fail
          go_ret
          exact ⟨ret_bool HV.out.symm, (Below.refl _ _).alloc (Nat.le_refl _) _⟩
      · have hv := hr
        rw [hnd_is, siz_lt hs] at hv
        clear hr
        have HS := hide hs
        clear hs
        cases g : decide (s < 60)
        · rw [g] at hv
          rcases (show h < hh ∨ h = hh ∨ hh < h by omega) with k | k | k
          · have k1 : decide (hh < h) = false := by simp; omega
            have k2 : decide (h < hh) = true := by simp; omega
            have HV := hide (show r = false by simpa [*] using hv)
            clear hv
            go_enter Tryz.func20, Tryz.ntmps20
            go_wp2_with fail
            refine (abs_is (by omega) (by omega) HS.out).mono ?_
            rintro e w1 ⟨rfl, hw⟩
            obtain rfl := hw.symm
            go_wp2_with fail
            go_ret
            exact ⟨ret_bool HV.out.symm, (Below.refl _ _).alloc (Nat.le_refl _) _⟩
          · exfalso
            have h0' : s = 0 := by rw [← HS.out, k, Int.sub_self]; rfl
            subst h0'
            simp at g
          · have k1 : decide (h < hh) = false := by simp; omega
            have k2 : decide (hh < h) = true := by simp; omega
            have HV := hide (show r = true by simpa [*] using hv)
            clear hv
            go_enter Tryz.func20, Tryz.ntmps20
            go_wp2_with fail
            refine (abs_is (by omega) (by omega) HS.out).mono ?_
            rintro e w1 ⟨rfl, hw⟩
            obtain rfl := hw.symm
            go_wp2_with fail
            go_ret
            exact ⟨ret_bool HV.out.symm, (Below.refl _ _).alloc (Nat.le_refl _) _⟩
        · rw [g] at hv
          have HV := hide (show r = true by simpa using hv)
          clear hv
          go_enter Tryz.func20, Tryz.ntmps20
          go_wp2_with fail
          refine (abs_is (by omega) (by omega) HS.out).mono ?_
          rintro e w1 ⟨rfl, hw⟩
          obtain rfl := hw.symm
          go_wp2_with fail
          go_ret
          exact ⟨ret_bool HV.out.symm, (Below.refl _ _).alloc (Nat.le_refl _) _⟩
    · cases se
      · have hv := hr
        rw [hnd_is, siz_lt hs] at hv
        clear hr
        have HS := hide hs
        clear hs
        cases g : decide (s < 60)
        · rw [g] at hv
          rcases (show h < hh ∨ h = hh ∨ hh < h by omega) with k | k | k
          · have k1 : decide (hh < h) = false := by simp; omega
            have k2 : decide (h < hh) = true := by simp; omega
            have HV := hide (show r = true by simpa [*] using hv)
            clear hv
            go_enter Tryz.func20, Tryz.ntmps20
            go_wp2_with fail
            refine (abs_is (by omega) (by omega) HS.out).mono ?_
            rintro e w1 ⟨rfl, hw⟩
            obtain rfl := hw.symm
            go_wp2_with fail
            go_ret
            exact ⟨ret_bool HV.out.symm, (Below.refl _ _).alloc (Nat.le_refl _) _⟩
          · exfalso
            have h0' : s = 0 := by rw [← HS.out, k, Int.sub_self]; rfl
            subst h0'
            simp at g
          · have k1 : decide (h < hh) = false := by simp; omega
            have k2 : decide (hh < h) = true := by simp; omega
            have HV := hide (show r = false by simpa [*] using hv)
            clear hv
            go_enter Tryz.func20, Tryz.ntmps20
            go_wp2_with fail
            refine (abs_is (by omega) (by omega) HS.out).mono ?_
            rintro e w1 ⟨rfl, hw⟩
            obtain rfl := hw.symm
            go_wp2_with fail
            go_ret
            exact ⟨ret_bool HV.out.symm, (Below.refl _ _).alloc (Nat.le_refl _) _⟩
        · rw [g] at hv
          have HV := hide (show r = true by simpa using hv)
          clear hv
          go_enter Tryz.func20, Tryz.ntmps20
          go_wp2_with fail
          refine (abs_is (by omega) (by omega) HS.out).mono ?_
          rintro e w1 ⟨rfl, hw⟩
          obtain rfl := hw.symm
          go_wp2_with fail
          go_ret
          exact ⟨ret_bool HV.out.symm, (Below.refl _ _).alloc (Nat.le_refl _) _⟩
      · have hv := hr
        rw [hnd_is, siz_lt hs] at hv
        clear hr
        have HS := hide hs
        clear hs
        cases g : decide (s < 60)
        · rw [g] at hv
          rcases (show h < hh ∨ h = hh ∨ hh < h by omega) with k | k | k
          · have k1 : decide (hh < h) = false := by simp; omega
            have k2 : decide (h < hh) = true := by simp; omega
            have HV := hide (show r = true by simpa [*] using hv)
            clear hv
            go_enter Tryz.func20, Tryz.ntmps20
            go_wp2_with fail
            refine (abs_is (by omega) (by omega) HS.out).mono ?_
            rintro e w1 ⟨rfl, hw⟩
            obtain rfl := hw.symm
            go_wp2_with fail
            go_ret
            exact ⟨ret_bool HV.out.symm, (Below.refl _ _).alloc (Nat.le_refl _) _⟩
          · exfalso
            have h0' : s = 0 := by rw [← HS.out, k, Int.sub_self]; rfl
            subst h0'
            simp at g
          · have k1 : decide (h < hh) = false := by simp; omega
            have k2 : decide (hh < h) = true := by simp; omega
            have HV := hide (show r = true by simpa [*] using hv)
            clear hv
            go_enter Tryz.func20, Tryz.ntmps20
            go_wp2_with fail
            refine (abs_is (by omega) (by omega) HS.out).mono ?_
            rintro e w1 ⟨rfl, hw⟩
            obtain rfl := hw.symm
            go_wp2_with fail
            go_ret
            exact ⟨ret_bool HV.out.symm, (Below.refl _ _).alloc (Nat.le_refl _) _⟩
        · rw [g] at hv
          have HV := hide (show r = true by simpa using hv)
          clear hv
          go_enter Tryz.func20, Tryz.ntmps20
          go_wp2_with fail
          refine (abs_is (by omega) (by omega) HS.out).mono ?_
          rintro e w1 ⟨rfl, hw⟩
          obtain rfl := hw.symm
          go_wp2_with fail
          go_ret
          exact ⟨ret_bool HV.out.symm, (Below.refl _ _).alloc (Nat.le_refl _) _⟩

theorem cdL_cd {l : List Crn} {i D : Int} (h : cdN l i ≠ 0) : cdL l i D = cdN l i := by
  unfold cdL; unfold cdN at h ⊢
  by_cases e : siteB l = true
  · rw [if_pos e] at h ⊢
    rw [if_pos e]
    by_cases e2 : inR i 0 ((l.length : Int) - 1) = true
    · rw [if_pos e2] at h; exact absurd rfl h
    · rw [if_neg e2]; simp [e2]
  · rw [if_neg e, if_neg e]
theorem cdL_in {l : List Crn} {i D : Int} {r : Bool} (h : cdN l i = 0) (hr : inR D 0 1000 = r) : cdL l i D = if r = true then 0 else 2 := by
  unfold cdL; unfold cdN at h
  by_cases e : siteB l = true
  · rw [if_pos e] at h ⊢
    by_cases e2 : inR i 0 ((l.length : Int) - 1) = true
    · rw [e2, hr]; cases r <;> rfl
    · rw [if_neg e2] at h; omega
  · rw [if_neg e] at h; omega

set_option maxRecDepth 100000 in
set_option maxHeartbeats 2000000 in
theorem distanceCode_any (A : Option Addr) (n c lo hi : Nat) (own : Bool) (l : List Crn) (hn : n ≤ 1048576) (hch : ∀ p ∈ l, p.ch.length ≤ 1048576) (hnm : ∀ p ∈ l, p.nm.size ≤ maxLen) (w : World) (h : RdC w lo hi own A n l) (hhi : hi ≤ w.heap.size) (hnc : n ≤ c) (i D : Int) :
    Calls Tryz.prog 16 #[.agg #[.slice A n c], .int .i64 i, .int .i64 D] w fun e w' => e = .returned (.int .i64 (cdL l i D)) ∧ Below w.heap.size w w' := by
  have HCH := hide hch
  have HNM := hide hnm
  obtain ⟨W0, hW0⟩ : ∃ W0 : World, (w.alloc (.cells #[.slice A n c] 30)) = W0 := ⟨_, rfl⟩
  have hb0 : Below w.heap.size w W0 := by rw [← hW0]; exact (Below.refl _ _).alloc (Nat.le_refl _) _
  have hz0 : W0.heap.size = w.heap.size + 1 := by rw [← hW0]; simp
  have HW0 := hide hW0
  have HR0 := hide (h.below hb0 hhi)
  have q0 : W0.cell? ⟨w.heap.size, 0, none⟩ = some (.slice A n c) := by rw [← hW0]; exact new_cell _ _ _ 0
  clear hW0 hch hnm h
  obtain ⟨cd, hcd⟩ : ∃ cd, cdN l i = cd := ⟨_, rfl⟩
  obtain ⟨r, hr⟩ : ∃ r, inR D 0 1000 = r := ⟨_, rfl⟩
  have HCD := hide hcd
  have HIN := hide hr
  by_cases hz : cd = 0
  · subst hz
    have HL := hide (cdL_in hcd hr)
    clear hcd hr
    cases r
    · go_enter Tryz.func16, Tryz.ntmps16
      go_wp2_with fail
      rw [HW0.out]
      skip
      refine (craneCode_any A n c lo hi own l hn HCH.out HNM.out _ HR0.out (by omega) hnc i).mono ?_
      rintro e w1 ⟨rfl, hb1⟩
      rw [HCD.out]
      have hB := hide (hb0.trans (hb1.mono (by omega)))
      go_wp2_with fail
      refine (within_is HIN.out).mono ?_
      rintro e w2 ⟨rfl, hw⟩
      obtain rfl := hw.symm
      go_wp2_with fail
      go_ret
      exact ⟨ret_int HL.out.symm, hB.out⟩
    · go_enter Tryz.func16, Tryz.ntmps16
      go_wp2_with fail
      rw [HW0.out]
      skip
      refine (craneCode_any A n c lo hi own l hn HCH.out HNM.out _ HR0.out (by omega) hnc i).mono ?_
      rintro e w1 ⟨rfl, hb1⟩
      rw [HCD.out]
      have hB := hide (hb0.trans (hb1.mono (by omega)))
      go_wp2_with fail
      refine (within_is HIN.out).mono ?_
      rintro e w2 ⟨rfl, hw⟩
      obtain rfl := hw.symm
      go_wp2_with fail
      go_ret
      exact ⟨ret_int HL.out.symm, hB.out⟩
  · have HL := hide (show cdL l i D = cd by rw [← hcd]; exact cdL_cd (by rw [hcd]; exact hz))
    have hz2 : (cd != 0) = true := by simpa using hz
    clear hcd hr
    go_enter Tryz.func16, Tryz.ntmps16
    go_wp2_with fail
    rw [HW0.out]
    skip
    refine (craneCode_any A n c lo hi own l hn HCH.out HNM.out _ HR0.out (by omega) hnc i).mono ?_
    rintro e w1 ⟨rfl, hb1⟩
    rw [HCD.out]
    have hB := hide (hb0.trans (hb1.mono (by omega)))
    go_wp2_with fail
    go_ret
    exact ⟨ret_int HL.out.symm, hB.out⟩


end Go.Proofs.YtajjophmngabbaaGreatDoor
