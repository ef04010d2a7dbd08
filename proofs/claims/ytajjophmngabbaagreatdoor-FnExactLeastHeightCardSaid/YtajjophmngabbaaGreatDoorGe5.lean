/-
  The reference's LeastHeight: all directions, whether cranes meet, whether one is free. No condition but those that each theorem names.
-/
import Derived.Test.YtajjophmngabbaaGreatDoorGe4
import Derived.Test.YtajjophmngabbaaGreatDoorFamInt64
import Derived.Test.YtajjophmngabbaaGreatDoorSite
import Derived.IntWalk
namespace Go.Proofs.YtajjophmngabbaaGreatDoor
open Go.RowKit
set_option linter.unusedVariables false
set_option linter.unusedSimpArgs false

theorem rI_snoc (l : List Int) (x : Int) : rInt64 (l ++ [x]) = rInt64 l ++ [.int .i64 x] := by simp [rInt64, rows, cInt64]
/-- The first k directions. -/
def dirL : Nat → List Int
  | 0 => []
  | k + 1 => dirL k ++ [(k : Int)]
theorem dirL_len (k : Nat) : (dirL k).length = k := by
  induction k with
  | zero => rfl
  | succ k ih => simp [dirL, ih]
theorem dirL_at {n k : Nat} (h : k < n) : (dirL n)[k]? = some (k : Int) := by
  induction n with
  | zero => omega
  | succ n ih =>
    rcases Nat.lt_or_eq_of_le (Nat.le_of_lt_succ h) with h' | rfl
    · rw [dirL, List.getElem?_append_left (by rw [dirL_len]; exact h')]; exact ih h'
    · rw [dirL, List.getElem?_append_right (by rw [dirL_len]; exact Nat.le_refl _), dirL_len]; simp
theorem dir_cell {w : World} {lo hi : Nat} {A : Option Addr} (h : Rd w lo hi 1 A 24 (rInt64 (dirL 24))) : ∃ b o, A = some ⟨b, o, none⟩ ∧ lo ≤ b ∧ b < hi ∧ ∀ k, k < 24 → w.cell? ⟨b, o + k, none⟩ = some (.int .i64 (k : Int)) := by
  obtain ⟨b, o, hA, h1, h2, h3⟩ := h.2 (by omega)
  refine ⟨b, o, hA, h1, h2, fun k hk => h3 k _ ?_⟩
  have hl : k < (dirL 24).length := by rw [dirL_len]; exact hk
  have e := rInt64_at (dirL 24) k hl
  rw [Nat.mul_one] at e
  rw [e]
  have e2 := dirL_at hk
  rw [List.getElem?_eq_getElem hl] at e2
  rw [Option.some.inj e2]
theorem nm_drew {W : World} {b o : Nat} {c : Crn} {h : Int} (k : NmC W b o c h) : NmC (World.drew W) b o c h := k
theorem rd_drew {W : World} {lo hi m n : Nat} {A : Option Addr} {us : List Value} (k : Rd W lo hi m A n us) : Rd (World.drew W) lo hi m A n us := k
theorem meet_yes {f : Int → Int → Bool} {k j : Nat} (hk : k < 24) (hj : j < 24) (h : f k j = true) : anyD (fun d => anyD (fun e => f d e) 24) 24 = true :=
  anyD_true.2 ⟨k, hk, anyD_true.2 ⟨j, hj, h⟩⟩
theorem anyD_no {f : Int → Bool} {k : Nat} (h : anyD f k = false) (h2 : f (k : Int) = false) : anyD f (k + 1) = false := by simp [anyD, h, h2]
/-- A site in memory whose i-th crane has the height h. -/
def SiH (w : World) (bs b off : Nat) (l : List Crn) (i : Nat) (h : Int) : Prop :=
  bs < w.heap.size ∧ (∃ c, w.cell? ⟨bs, 0, none⟩ = some (.slice (some ⟨b, off, none⟩) l.length c)) ∧ ∀ k (hk : k < l.length), NmC w b (off + k * 7) l[k] (if k = i then h else l[k].h)
theorem SiH.below {w w' : World} {bs b off i B : Nat} {l : List Crn} {h : Int} (k : SiH w bs b off l i h) (hb : Below B w w') (h1 : bs < B) (h2 : b < B) : SiH w' bs b off l i h := by
  obtain ⟨k0, ⟨c, k1⟩, k2⟩ := k
  exact ⟨Nat.lt_of_lt_of_le k0 hb.size, ⟨c, (hb.cell (p := ⟨bs, 0, none⟩) h1).trans k1⟩, fun j hj => (k2 j hj).below hb h2⟩
theorem SiH.own {w : World} {bs b off i : Nat} {l : List Crn} {h : Int} (k : SiH w bs b off l i h) (hi : i < l.length) : NmC w b (off + i * 7) l[i] h := by
  have := k.2.2 i hi
  rwa [if_pos rfl] at this
theorem SiH.oth {w : World} {bs b off i j : Nat} {l : List Crn} {h : Int} (k : SiH w bs b off l i h) (hj : j < l.length) (hne : j ≠ i) : NmC w b (off + j * 7) l[j] l[j].h := by
  have := k.2.2 j hj
  rwa [if_neg hne] at this
/-- Is the i-th crane, of height h, hindered by none of the first k? -/
def frK (l : List Crn) (i : Nat) (h D : Int) : Nat → Bool
  | 0 => true
  | k + 1 => frK l i h D k && (decide (k = i) || !(hnd (clN (l.getD i crZ) (l.getD k crZ) D) h))
theorem frK_down {l : List Crn} {i : Nat} {h D : Int} {k : Nat} (hk : frK l i h D k = false) : ∀ m, k ≤ m → frK l i h D m = false := by
  intro m
  induction m with
  | zero => intro hm; obtain rfl : k = 0 := by omega
            exact hk
  | succ m ih =>
    intro hm
    rcases Nat.lt_or_eq_of_le hm with h' | rfl
    · rw [frK, ih (by omega)]; rfl
    · exact hk
theorem frK_self {l : List Crn} {i : Nat} {h D : Int} {k : Nat} (e : k = i) : frK l i h D (k + 1) = frK l i h D k := by simp [frK, e]
theorem frK_oth {l : List Crn} {i : Nat} {h D : Int} {k : Nat} (hi : i < l.length) (hk : k < l.length) (e : k ≠ i) {y : Bool} (hy : anyD (fun d => anyD (fun e => cfB l[i] l[k] h D d e) 24) 24 = y) : frK l i h D (k + 1) = (frK l i h D k && !y) := by
  rw [← hy, meet_hnd, frK, getC hi, getC hk]
  simp [e]

set_option maxRecDepth 100000 in
set_option maxHeartbeats 2000000 in
theorem l22All_any (w : World) :
    Calls Tryz.prog 25 #[] w fun e w' => ∃ v, e = .returned v ∧ Own w' w.heap.size w'.heap.size 2 1 v 24 (rInt64 (dirL 24)) ∧ Below w.heap.size w w' := by
  obtain ⟨i0, hi0, hz0, hz1, hz2⟩ := info_parts infoInt64
  have I := hide (And.intro hi0 (And.intro hz0 (And.intro hz1 hz2)))
  clear hi0 hz0 hz1 hz2
  go_enter Tryz.func25, Tryz.ntmps25
  go_wp2
  go_loopw [1, 2] (fun v i wr => ∃ k : Nat, k ≤ 24 ∧ i = .int .i64 k ∧ wr.ownsRow w.heap.size 2 1 v k (rInt64 (dirL k)) ∧ Below w.heap.size w wr) (fun _ i _ => 24 - (intOf i).toNat)
  case atStart => exact ⟨0, by omega, rfl, World.ownsRow_made _ _ 0 (Nat.le_refl _) (Nat.zero_le _) rfl, (Below.refl _ _).alloc (Nat.le_refl _) _⟩
  case round =>
    obtain ⟨k, hk, rfl, ho, hbr⟩ := hrel
    by_cases hlt : k < 24
    · have hsz := hbr.size
      have hlen := dirL_len k
      have Ho := hide ho
      clear ho
      go_wp2_with (at_builtin; refine wpList_append_own _ rfl (.tmp 8) (.tmp 10) 38 rfl w.heap.size 2 i0 (.int .i64 0) 1 8 Tryz.underlying38 I.out.1 I.out.2.1 I.out.2.2.1 I.out.2.2.2 rfl (by decide) _ _ _ rfl (Ho.out.alloc _) ⟨wr.heap.size, 0, none⟩ 1 1 [.int .i64 (k : Int)] rfl rfl (cell_one_new _ _ _) (by simp [Value.oneCell']) (by unfold maxLen; omega) (by omega) (by simp; omega) ?_; intro v' w1 hown' hgrow _)
      go_roundw
      case rel => exact ⟨k + 1, by omega, by go_num, by rw [dirL, rI_snoc]; exact hown', (hbr.alloc hsz _).grown hgrow (by simp; omega) (fun g hg => (Ho.out.lt g hg).1)⟩
      case measure => simp [intOf]; omega
    · have hk24 : k = 24 := by omega
      subst hk24
      go_wp2
      go_ret
      exact ⟨_, rfl, Own.of_owns ho, hbr⟩

set_option maxRecDepth 100000 in
set_option maxHeartbeats 2000000 in
theorem l22Meet_is {ga oa gb ob : Nat} {ca cb : Crn} {ha D : Int} {A : Option Addr} {c c' lo hi : Nat} {r : Bool} (ka : crB ca = true) (kb : crB cb = true) (hh0 : 1 ≤ ha) (hh1 : ha ≤ 2000) (hD0 : 0 ≤ D) (hD1 : D ≤ 1000) (hr : anyD (fun d => anyD (fun e => cfB ca cb ha D d e) 24) 24 = r) {w : World} (hd : Rd w lo hi 1 A 24 (rInt64 (dirL 24))) (hhi : hi ≤ w.heap.size) (hA : NmC w ga oa ca ha) (hB : NmC w gb ob cb cb.h) :
    Calls Tryz.prog 26 #[.pointer (some ⟨ga, oa, none⟩), .pointer (some ⟨gb, ob, none⟩), .slice A 24 c, .slice A 24 c', .int .i64 D] w fun e w' => e = .returned (.bool r) ∧ Below w.heap.size w w' := by
  obtain ⟨bd, od, rfl, hd1, hd2, hdc⟩ := dir_cell hd
  have HDC := hide hdc
  have HA := hide hA
  have HB := hide hB
  have hga := hA.1
  have hgb := hB.1
  have hbd : bd < w.heap.size := by omega
  have HR := hide hr
  have KA := hide ka
  have KB := hide kb
  clear hdc hA hB hr ka kb hd
  go_enter Tryz.func26, Tryz.ntmps26
  go_wp2_with fail
  go_loopw [11] (fun i wr => ∃ k : Nat, k ≤ 24 ∧ i = .int .i64 k ∧ Hid (anyD (fun d => anyD (fun e => cfB ca cb ha D d e) 24) k = false) ∧ Below w.heap.size w wr) (fun i _ => 24 - (intOf i).toNat)
  case atStart => exact ⟨0, by omega, rfl, hide rfl, Below.refl _ _⟩
  case round =>
    obtain ⟨k, hk, rfl, HK, hbr⟩ := hrel
    by_cases hlt : k < 24
    · have hlt2 : decide ((k : Int) < 24) = true := by simp; omega
      go_wp2_with fail
      generalize wr = W5 at *
      go_loopw [12] (fun i wr => ∃ j : Nat, j ≤ 24 ∧ i = .int .i64 j ∧ Hid (anyD (fun e => cfB ca cb ha D (k : Int) e) j = false) ∧ Below w.heap.size w wr) (fun i _ => 24 - (intOf i).toNat)
      case atStart => exact ⟨0, by omega, rfl, hide rfl, hbr⟩
      case round =>
        clear hbr
        obtain ⟨j, hj, rfl, HJ, hbr⟩ := hrel
        by_cases hlj : j < 24
        · have hsz := hbr.size
          obtain ⟨y, hy⟩ : ∃ y, cfB ca cb ha D (k : Int) (j : Int) = y := ⟨_, rfl⟩
          have HY := hide hy
          clear hy
          have HSS : Hid ((World.drew wr).cell? ⟨bd, od + k, none⟩ = some (.int .i64 (k : Int)) ∧ (World.drew wr).cell? ⟨bd, od + j, none⟩ = some (.int .i64 (j : Int))) := hide ⟨(hbr.cell (p := ⟨bd, od + k, none⟩) hbd).trans (HDC.out k hlt), (hbr.cell (p := ⟨bd, od + j, none⟩) hbd).trans (HDC.out j hlj)⟩
          have HA1 := hide (nm_drew (HA.out.below hbr hga))
          have HB1 := hide (nm_drew (HB.out.below hbr hgb))
          have hbw : bd < wr.heap.size := by omega
          clear hlt2
          have zk0 : (0 : Int) ≤ (k : Int) := by omega
          have zk1 : (k : Int) < 24 := by omega
          have zj0 : (0 : Int) ≤ (j : Int) := by omega
          have zj1 : (j : Int) < 24 := by omega
          go_wp2_with fail
          go_region_held3 (fun W => W.cell? ⟨bd, od + k, none⟩ = some (.int .i64 (k : Int)) ∧ W.cell? ⟨bd, od + j, none⟩ = some (.int .i64 (j : Int))) (with_reducible exact HSS.out) (first | (go_at_call 38; (with_reducible refine (l15Conflict_is KA.out KB.out hh0 hh1 (by omega) (by omega) (by omega) (by omega) hD0 hD1 HY.out HA1.out HB1.out).mono ?_); rintro e w3 ⟨rfl, hq3⟩; have hz3 : wr.heap.size ≤ w3.heap.size := hq3.size; have HSS : Hid (w3.cell? ⟨bd, od + k, none⟩ = some (.int .i64 (k : Int)) ∧ w3.cell? ⟨bd, od + j, none⟩ = some (.int .i64 (j : Int))) := hide ⟨(hq3.cell (p := ⟨bd, od + k, none⟩) (by show bd < wr.heap.size; omega)).trans HSS.out.1, (hq3.cell (p := ⟨bd, od + j, none⟩) (by show bd < wr.heap.size; omega)).trans HSS.out.2⟩))
          have hb3 := hbr.trans ((((Joins.below_draws _ _ 1 : Below wr.heap.size wr (World.drew wr))).trans hq3).mono hsz)
          clear hq3 HSS
          cases y
          · go_wp2_with fail
            go_roundw
            case rel => exact ⟨j + 1, by omega, by go_num, hide (anyD_no HJ.out HY.out), hb3⟩
            case measure => simp [intOf]; omega
          · go_wp2_with fail
            go_ret
            exact ⟨ret_bool (by rw [← HR.out]; exact (meet_yes (f := fun d e => cfB ca cb ha D d e) hlt hlj HY.out).symm), hb3⟩
        · have hj24 : j = 24 := by omega
          subst hj24
          go_wp2_with fail
          go_roundw
          case rel => exact ⟨k + 1, by omega, by go_num, hide (anyD_no HK.out HJ.out), hbr⟩
          case measure => simp [intOf]; omega
    · have hk24 : k = 24 := by omega
      subst hk24
      go_wp2_with fail
      go_ret
      exact ⟨ret_bool (HK.out.symm.trans HR.out), hbr⟩

set_option maxRecDepth 100000 in
set_option maxHeartbeats 2000000 in
theorem l22Free_is {bs b off i : Nat} {l : List Crn} {h D : Int} {r : Bool} (hs : siteB l = true) (hi : i < l.length) (hh0 : 1 ≤ h) (hh1 : h ≤ 2000) (hD0 : 0 ≤ D) (hD1 : D ≤ 1000) (hr : frK l i h D l.length = r) {w : World} (hw : SiH w bs b off l i h) :
    Calls Tryz.prog 14 #[.pointer (some ⟨bs, 0, none⟩), .int .i64 i, .int .i64 D] w fun e w' => e = .returned (.bool r) ∧ Below w.heap.size w w' := by
  have hcr := (siteB_cr hs).1
  have hl6 := (siteB_cr hs).2.2
  have hbs := hw.1
  have hb := (hw.own hi).1
  obtain ⟨c, hc⟩ := hw.2.1
  have HW := hide hw
  obtain ⟨n, hn⟩ : ∃ n, l.length = n := ⟨_, rfl⟩
  rw [hn] at hc hl6 hr
  have HN := hide hn
  have HC := hide hc
  have HR := hide hr
  have HCR := hide hcr
  have hin : i < n := by omega
  have KI := hide (hcr _ (List.getElem_mem hi))
  have HI := hide hi
  clear hc hr hcr hs hw hn
  go_enter Tryz.func14, Tryz.ntmps14
  go_wp2_with fail
  refine (l22All_any _).mono ?_
  rintro e w1 ⟨v, rfl, ho, hb1⟩
  obtain ⟨Ad, cd, rfl, hn1, hn2, hrd⟩ := ho.rd
  have hs1 := hb1.size
  have HRD := hide hrd
  have HC1 := hide ((hb1.cell (p := ⟨bs, 0, none⟩) hbs).trans HC.out)
  have HW1 := hide (HW.out.below hb1 hbs hb)
  clear ho hrd
  go_wp2_with fail
  go_loopw [8] (fun i' wr => ∃ k : Nat, k ≤ n ∧ i' = .int .i64 k ∧ Hid (frK l i h D k = true) ∧ Below w1.heap.size w1 wr) (fun i' _ => n - (intOf i').toNat)
  case atStart => exact ⟨0, by omega, rfl, hide rfl, Below.refl _ _⟩
  case round =>
    obtain ⟨k, hk, rfl, HK, hbr⟩ := hrel
    have hsz := hbr.size
    have lks := (hbr.cell (p := ⟨bs, 0, none⟩) (by show bs < _; omega)).trans HC1.out
    by_cases hlt : k < n
    · have hil : k < l.length := by rw [HN.out]; exact hlt
      by_cases hki : k = i
      · have HE := hide ((frK_self (l := l) (h := h) (D := D) hki).trans HK.out)
        have hki2 : ((k : Int) != (i : Int)) = false := by simp [hki]
        go_wp2_with fail
        go_quiet (fail)
        go_wp2_with fail
        go_roundw
        case rel => exact ⟨k + 1, by omega, by go_num, HE, hbr.trans ((Joins.below_draws _ _ _).mono hsz)⟩
        case measure => simp [intOf]; omega
      · have hki2 : ((k : Int) != (i : Int)) = true := by simp; omega
        obtain ⟨y, hy⟩ : ∃ y, anyD (fun d => anyD (fun e => cfB (l[i]'HI.out) l[k] h D d e) 24) 24 = y := ⟨_, rfl⟩
        have HE := hide (frK_oth HI.out hil hki hy)
        have HY := hide hy
        clear hy
        have KK := hide (HCR.out _ (List.getElem_mem hil))
        have HWR := HW1.out.below hbr (by omega) (by omega)
        have HA1 := hide (nm_drew (HWR.own HI.out))
        have HB1 := hide (nm_drew (HWR.oth hil hki))
        have HRD1 := hide (rd_drew (HRD.out.below hbr (by omega)))
        have HSS : Hid ((World.drew wr).cell? ⟨bs, 0, none⟩ = some (.slice (some ⟨b, off, none⟩) n c)) := hide lks
        have hdz : w1.heap.size ≤ (World.drew wr).heap.size := hsz
        have hbsr : bs < wr.heap.size := by omega
        clear HWR
        go_wp2_with fail
        clear lks
        go_region_held3 (fun W => W.cell? ⟨bs, 0, none⟩ = some (.slice (some ⟨b, off, none⟩) n c)) (with_reducible exact HSS.out) (first | (go_at_call 26; (with_reducible refine (l22Meet_is KI.out KK.out hh0 hh1 hD0 hD1 HY.out HRD1.out hdz HA1.out HB1.out).mono ?_); rintro e w3 ⟨rfl, hq3⟩; have hz3 : wr.heap.size ≤ w3.heap.size := hq3.size; have HSS : Hid (w3.cell? ⟨bs, 0, none⟩ = some (.slice (some ⟨b, off, none⟩) n c)) := hide ((hq3.cell (p := ⟨bs, 0, none⟩) hbsr).trans HSS.out)))
        have hb3 := hbr.trans ((((Joins.below_draws _ _ 1 : Below wr.heap.size wr (World.drew wr))).trans hq3).mono hsz)
        clear hq3 HSS
        cases y
        · go_wp2_with fail
          go_roundw
          case rel => exact ⟨k + 1, by omega, by go_num, hide (by have h1 := HE.out; rw [h1, HK.out]; rfl), hb3⟩
          case measure => simp [intOf]; omega
        · go_wp2_with fail
          go_ret
          exact ⟨ret_bool (by rw [← HR.out]; exact (frK_down (k := k + 1) (by have h1 := HE.out; rw [h1, HK.out]; rfl) n (by omega)).symm), hb1.trans (hb3.mono hs1)⟩
    · have hkn : k = n := by omega
      subst hkn
      go_wp2_with fail
      go_ret
      exact ⟨ret_bool (HK.out.symm.trans HR.out), hb1.trans (hbr.mono hs1)⟩


end Go.Proofs.YtajjophmngabbaaGreatDoor
