/-
  The reference's LeastHeight: heights at which what a crane hinders can change; the code of a site, a crane and a distance. No condition but those that each theorem names.
-/
import Derived.Test.YtajjophmngabbaaGreatDoorGe5
import Derived.Test.YtajjophmngabbaaGreatDoorCdN
namespace Go.Proofs.YtajjophmngabbaaGreatDoor
open Go.RowKit
set_option linter.unusedVariables false
set_option linter.unusedSimpArgs false

theorem cell_four_new (w : World) (x y z u : Value) (t : TypeId) : ∀ j v, [x, y, z, u][j]? = some v → (w.alloc (.cells #[x, y, z, u] t)).cell? ((⟨w.heap.size, 0, none⟩ : Addr).add j) = some v := by
  intro j v hv
  match j, hv with
  | 0, hv => simp at hv; subst hv; simp [Addr.add]
  | 1, hv => simp at hv; subst hv; simp [Addr.add]
  | 2, hv => simp at hv; subst hv; simp [Addr.add]
  | 3, hv => simp at hv; subst hv; simp [Addr.add]
  | _ + 4, hv => simp at hv
theorem row_one {w : World} {e : TypeId} {b : Nat} (hb : b ≤ w.heap.size) (x : Int) : (w.alloc (.cells #[.int .i64 x] e)).ownsRow b e 1 (.slice (some ⟨w.heap.size, 0, none⟩) 1 1) 1 [.int .i64 x] :=
  ⟨by simp, .inr ⟨w.heap.size, 1, #[.int .i64 x], rfl, hb, heap_alloc_new w _, Nat.le_refl _, by unfold maxLen; omega, by simp, by simp⟩⟩
theorem rI_app (l m : List Int) : rInt64 (l ++ m) = rInt64 l ++ rInt64 m := by simp [rInt64, rows, cInt64]
/-- The heights at which what the i-th crane hinders can change, by the first k cranes. -/
def htL (l : List Crn) (i : Nat) : Nat → List Int
  | 0 => [1]
  | k + 1 => if k = i then htL l i k else htL l i k ++ [(l.getD k crZ).h, (l.getD k crZ).h - 60 + 1, (l.getD k crZ).h + 1, (l.getD k crZ).h + 60]
theorem htL_self {l : List Crn} {i k : Nat} (h : k = i) : htL l i (k + 1) = htL l i k := by rw [htL, if_pos h]
theorem htL_oth {l : List Crn} {i k : Nat} (h : k ≠ i) (hk : k < l.length) {g : Int} (hg : l[k].h = g) : htL l i (k + 1) = htL l i k ++ [g, g - 60 + 1, g + 1, g + 60] := by rw [htL, if_neg h, getC hk, hg]
theorem htL_len (l : List Crn) (i : Nat) : ∀ k, (htL l i k).length ≤ 1 + 4 * k
  | 0 => Nat.le_refl _
  | k + 1 => by
    have := htL_len l i k
    rw [htL]; split
    · omega
    · rw [List.length_append]; simp only [List.length_cons, List.length_nil]; omega
theorem h_bd {c : Crn} (h : crB c = true) : 1 ≤ c.h ∧ c.h ≤ 2000 := (cr_nums h).2.2.1
/-- The code of a site, a crane and a distance. -/
def cdL (l : List Crn) (i D : Int) : Int := if siteB l = true then (if (inR i 0 ((l.length : Int) - 1) && inR D 0 1000) = true then 0 else 2) else 1
theorem cdL_bad {l : List Crn} {i D : Int} (h : siteB l = false) : cdL l i D = 1 := by simp [cdL, h]
theorem cdL_far {l : List Crn} {i D : Int} (h : siteB l = true) (h2 : inR i 0 ((l.length : Int) - 1) = false) : cdL l i D = 2 := by simp [cdL, h, h2]
theorem cdL_dis {l : List Crn} {i D : Int} (h : siteB l = true) (h2 : inR D 0 1000 = false) : cdL l i D = 2 := by simp [cdL, h, h2]
theorem cdL_ok {l : List Crn} {i D : Int} (h : siteB l = true) (h2 : inR i 0 ((l.length : Int) - 1) = true) (h3 : inR D 0 1000 = true) : cdL l i D = 0 := by simp [cdL, h, h2, h3]

set_option maxRecDepth 100000 in
set_option maxHeartbeats 2000000 in
theorem l22Heights_any {bs b off i : Nat} {l : List Crn} {h : Int} (hs : siteB l = true) (hi : i < l.length) {w : World} (hw : SiH w bs b off l i h) :
    Calls Tryz.prog 12 #[.pointer (some ⟨bs, 0, none⟩), .int .i64 i] w fun e w' => ∃ v, e = .returned v ∧ Own w' w.heap.size w'.heap.size 2 1 v (htL l i l.length).length (rInt64 (htL l i l.length)) ∧ Below w.heap.size w w' := by
  obtain ⟨i0, hi0, hz0, hz1, hz2⟩ := info_parts infoInt64
  have I := hide (And.intro hi0 (And.intro hz0 (And.intro hz1 hz2)))
  clear hi0 hz0 hz1 hz2
  have hcr := (siteB_cr hs).1
  have hl6 := (siteB_cr hs).2.2
  have hbs := hw.1
  have hb := (hw.own hi).1
  obtain ⟨c, hc⟩ := hw.2.1
  have HW := hide hw
  obtain ⟨n, hn⟩ : ∃ n, l.length = n := ⟨_, rfl⟩
  rw [hn] at hc hl6 hi ⊢
  have HN := hide hn
  have HC := hide hc
  have HCR := hide hcr
  clear hc hcr hs hw hn
  go_enter Tryz.func12, Tryz.ntmps12
  go_wp2_with fail
  go_loopw [5, 6] (fun v i' wr => ∃ k : Nat, k ≤ n ∧ i' = .int .i64 k ∧ wr.ownsRow w.heap.size 2 1 v (htL l i k).length (rInt64 (htL l i k)) ∧ Below w.heap.size w wr) (fun _ i' _ => n - (intOf i').toNat)
  case atStart =>
    refine ⟨0, by omega, rfl, ?_, (Below.refl _ _).alloc (Nat.le_refl _) _⟩
    exact row_one (Nat.le_refl _) 1
  case round =>
    obtain ⟨k, hk, rfl, ho, hbr⟩ := hrel
    have hsz := hbr.size
    have lks := (hbr.cell (p := ⟨bs, 0, none⟩) hbs).trans HC.out
    by_cases hlt : k < n
    · have hil : k < l.length := by rw [HN.out]; exact hlt
      have Ho := hide ho
      clear ho
      by_cases hki : k = i
      · have HE := hide (htL_self (l := l) hki)
        have hki2 : ((k : Int) == (i : Int)) = true := by simp [hki]
        go_wp2_with fail
        go_roundw
        case rel => exact ⟨k + 1, by omega, by go_num, by rw [HE.out]; exact Ho.out, hbr⟩
        case measure => simp [intOf]; omega
      · have hki2 : ((k : Int) == (i : Int)) = false := by simp; omega
        obtain ⟨g, hg⟩ : ∃ g, l[k].h = g := ⟨_, rfl⟩
        have HE := hide (htL_oth hki hil hg)
        have hgb := h_bd (HCR.out _ (List.getElem_mem hil))
        have q3 := ((HW.out.below hbr hbs hb).oth hil hki).2.2.2.1
        rw [hg] at q3 hgb
        clear hg
        have zk0 : (0 : Int) ≤ (k : Int) := by omega
        have zk1 : (k : Int) < (n : Int) := by omega
        have hbr' : b < wr.heap.size := by omega
        have hlen := htL_len l i k
        go_wp2_with (at_builtin; refine wpList_append_own _ rfl (.tmp 29) (.tmp 38) 38 rfl w.heap.size 2 i0 (.int .i64 0) 1 8 Tryz.underlying38 I.out.1 I.out.2.1 I.out.2.2.1 I.out.2.2.2 rfl (by decide) _ _ _ rfl (Ho.out.alloc _) ⟨wr.heap.size, 0, none⟩ 4 4 [.int .i64 g, .int .i64 (g - 60 + 1), .int .i64 (g + 1), .int .i64 (g + 60)] rfl rfl (cell_four_new _ _ _ _ _ _) (by simp [Value.oneCell']) (by unfold maxLen; omega) (by omega) (by simp; omega) ?_; intro v' w1 hown' hgrow _)
        go_roundw
        case rel => exact ⟨k + 1, by omega, by go_num, by rw [HE.out, rI_app, List.length_append]; exact hown', (hbr.alloc hsz _).grown hgrow (by simp; omega) (fun g hg => (Ho.out.lt g hg).1)⟩
        case measure => simp [intOf]; omega
    · have hkn : k = n := by omega
      subst hkn
      go_wp2_with fail
      go_ret
      exact ⟨_, rfl, Own.of_owns ho, hbr⟩

theorem l15Distance_is {D : Int} {r : Bool} (hr : inR D 0 1000 = r) {w : World} : Calls Tryz.prog 37 #[.int .i64 D] w fun e w' => e = .returned (.bool r) ∧ w' = w := by
  have HR := hide hr
  clear hr
  go_enter Tryz.func37, Tryz.ntmps37
  go_wp2_with fail
  refine (l00In_is2 HR.out).mono ?_
  rintro e w2 ⟨rfl, rfl⟩
  go_wp2_with fail
  go_ret
  exact ⟨rfl, rfl⟩

set_option maxRecDepth 100000 in
set_option maxHeartbeats 2000000 in
theorem l22Code_is (bs os : Nat) (A : Option Addr) (n c lo hi : Nat) (own : Bool) (l : List Crn) (hn : n ≤ 1048576) (hch : ∀ p ∈ l, p.ch.length ≤ 1048576) (hnm : ∀ p ∈ l, p.nm.size ≤ maxLen) (w : World) {D : Int} (hbs : bs < w.heap.size) (hs : w.cell? ⟨bs, os, none⟩ = some (.slice A n c)) (h : RdC w lo hi own A n l) (hhi : hi ≤ w.heap.size) {r r2 : Bool} (hr : siteB l = r) (hr2 : inR D 0 1000 = r2) :
    Calls Tryz.prog 23 #[.pointer (some ⟨bs, os, none⟩), .int .i64 0, .int .i64 D] w fun e w' => e = .returned (.int .i64 (if r = true then (if r2 = true then 0 else 2) else 1)) ∧ Below w.heap.size w w' := by
  have HCH := hide hch
  have HNM := hide hnm
  have HLEN := hide h.length
  have HR := hide h
  have HS := hide hs
  have HQ := hide hr
  have HQ2 := hide hr2
  clear hch hnm h hs hr hr2
  cases r
  · go_enter Tryz.func23, Tryz.ntmps23
    go_wp2_with fail
    refine (l04Site_any bs os A n c lo hi own l hn HCH.out HNM.out _ hbs HS.out HR.out hhi).mono ?_
    rintro e w1 ⟨rfl, hb1⟩
    rw [HQ.out]
    go_wp2_with fail
    go_ret
    exact ⟨rfl, hb1⟩
  · have HT : Hid (inR 0 0 6 = true) := hide (by decide)
    cases r2
    all_goals
      go_enter Tryz.func23, Tryz.ntmps23
      go_wp2_with fail
      refine (l04Site_any bs os A n c lo hi own l hn HCH.out HNM.out _ hbs HS.out HR.out hhi).mono ?_
      rintro e w1 ⟨rfl, hb1⟩
      rw [HQ.out]
      go_wp2_with fail
      refine (l00In_is2 HT.out).mono ?_
      rintro e w2 ⟨rfl, hw⟩
      obtain rfl := hw.symm
      go_wp2_with fail
      refine (l15Distance_is HQ2.out).mono ?_
      rintro e w3 ⟨rfl, hw⟩
      obtain rfl := hw.symm
      go_wp2_with fail
      go_ret
      exact ⟨rfl, hb1⟩

set_option maxRecDepth 100000 in
set_option maxHeartbeats 2000000 in
theorem l22Crane_any (bs os : Nat) (A : Option Addr) (n c lo hi : Nat) (own : Bool) (l : List Crn) (hn : n ≤ 1048576) (hch : ∀ p ∈ l, p.ch.length ≤ 1048576) (hnm : ∀ p ∈ l, p.nm.size ≤ maxLen) (w : World) (i D : Int) (hbs : bs < w.heap.size) (hs : w.cell? ⟨bs, os, none⟩ = some (.slice A n c)) (h : RdC w lo hi own A n l) (hhi : hi ≤ w.heap.size) :
    Calls Tryz.prog 10 #[.pointer (some ⟨bs, os, none⟩), .int .i64 i, .int .i64 D] w fun e w' => e = .returned (.int .i64 (cdL l i D)) ∧ Below w.heap.size w w' := by
  have HCH := hide hch
  have HNM := hide hnm
  have HLEN := hide h.length
  have HR := hide h
  have HS := hide hs
  obtain ⟨r, hr⟩ : ∃ r, siteB l = r := ⟨_, rfl⟩
  obtain ⟨r2, hr2⟩ : ∃ r, inR D 0 1000 = r := ⟨_, rfl⟩
  obtain ⟨r3, hr3⟩ : ∃ r, inR i 0 ((n : Int) - 1) = r := ⟨_, rfl⟩
  have HE := hide (show cdL l i D = if r = true then (if r2 = true then (if r3 = true then 0 else 2) else 2) else 1 by
    unfold cdL
    rw [hr, hr2, HLEN.out, hr3]
    cases r <;> cases r2 <;> cases r3 <;> rfl)
  have HQ := hide hr
  have HQ2 := hide hr2
  have HQ3 := hide hr3
  clear hch hnm h hs hr hr2 hr3
  by_cases hz : (if r = true then (if r2 = true then (0 : Int) else 2) else 1) = 0
  · obtain ⟨rfl, rfl⟩ : r = true ∧ r2 = true := by cases r <;> cases r2 <;> simp at hz ⊢
    clear hz
    cases r3
    all_goals
      go_enter Tryz.func10, Tryz.ntmps10
      go_wp2_with fail
      refine (l22Code_is bs os A n c lo hi own l hn HCH.out HNM.out _ hbs HS.out HR.out hhi HQ.out HQ2.out).mono ?_
      rintro e w1 ⟨rfl, hb1⟩
      have q0 := (hb1.cell (p := ⟨bs, os, none⟩) hbs).trans HS.out
      simp only [if_true]
      go_wp2_with fail
      refine (l00In_is2 HQ3.out).mono ?_
      rintro e w2 ⟨rfl, hw⟩
      obtain rfl := hw.symm
      go_wp2_with fail
      go_ret
      exact ⟨ret_int' HE.out.symm, hb1⟩
  · have HE2 := hide (show cdL l i D = (if r = true then (if r2 = true then (0 : Int) else 2) else 1) by
      rw [HE.out]; cases r <;> cases r2 <;> simp at hz ⊢)
    obtain ⟨q, hq⟩ : ∃ q, (if r = true then (if r2 = true then (0 : Int) else 2) else 1) = q := ⟨_, rfl⟩
    rw [hq] at hz
    have HE3 := hide (HE2.out.trans hq)
    have HQQ := hide hq
    have hz2 : (q == 0) = false := by simpa using hz
    clear hq HE HE2
    go_enter Tryz.func10, Tryz.ntmps10
    go_wp2_with fail
    refine (l22Code_is bs os A n c lo hi own l hn HCH.out HNM.out _ hbs HS.out HR.out hhi HQ.out HQ2.out).mono ?_
    rintro e w1 ⟨rfl, hb1⟩
    rw [HQQ.out]
    go_wp2_with fail
    go_ret
    exact ⟨ret_int' HE3.out.symm, hb1⟩


end Go.Proofs.YtajjophmngabbaaGreatDoor
