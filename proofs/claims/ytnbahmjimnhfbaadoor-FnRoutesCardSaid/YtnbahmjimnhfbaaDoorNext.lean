/-
  THE STATES TO WHICH AN ALLOWED STEP LEADS: the reference's and the program's. No condition but those that each theorem names.
-/
import Derived.Test.YtnbahmjimnhfbaaDoorStp
import Derived.Test.YtnbahmjimnhfbaaDoorGrow
import Derived.Test.YtnbahmjimnhfbaaDoorFamSInt64
namespace Go.Proofs.YtnbahmjimnhfbaaDoor
open Go.RowKit
set_option linter.unusedVariables false

theorem news_at2 (w : World) (v : Value) (T : TypeId) (b : Nat) (hb : b = w.heap.size) : ∀ (j : Nat) (u : Value), [v][j]? = some u → (w.alloc (.cells #[v] T)).cell? ((⟨b, 0, none⟩ : Addr).add j) = some u := by
  subst hb
  exact cell_one_new _ _ _
theorem rr_snoc (l : List (List Int)) (r : List Int) : rrInt64 (l ++ [r]) = rrInt64 l ++ [rInt64 r] := by simp [rrInt64]
theorem r_two (x y : Int) : rInt64 [x, y] = [.int .i64 x, .int .i64 y] := rfl
section
variable {w w' : World} {lo hi n : Nat} {rs : List (List Value)} {us : List Value} {E T : TypeId} {v : Value}
/-- A row that lies in a block of its own, newer than the others', is appended. -/
theorem ss_snoc3 {wr w1 : World} {v' u : Value} {r : List Value} {c0 : Array Value} {mid : Nat} (hne : T ≠ E) (ho : Own wr lo wr.heap.size T 1 v n us) (hro : Rows wr lo mid E us rs) (hnew : Own wr mid wr.heap.size E 1 u r.length r) (hlo : lo ≤ mid) (hmid : mid ≤ wr.heap.size)
    (hg : (wr.alloc (.cells c0 T)).grownBy w1 v.ownBlock) (ho1 : w1.ownsRow lo T 1 v' (n + 1) (us ++ [u])) :
    OwnSS w1 lo w1.heap.size T E v' (n + 1) (rs ++ [r]) := by
  have hsz := hg.size
  simp at hsz
  have hold : ∀ g, g < wr.heap.size → (wr.alloc (.cells c0 T)).heap[g]? = wr.heap[g]? := fun g hg => by
    have hb : Below wr.heap.size wr (wr.alloc (.cells c0 T)) := (Below.refl _ _).alloc (Nat.le_refl _) _
    exact hb.block g hg
  refine ⟨us ++ [u], Own.of_owns ho1, ?_⟩
  refine Rows.snoc (hi := mid) (lo' := mid) (hro.of_rows fun i u g hu hgu => ?_) ((hnew.of_block fun g hg' => ?_).mono (Nat.le_refl _) (by omega)) hlo (Nat.le_refl _) (by omega)
  · have hi : i < rs.length := by rw [← hro.len]; exact (List.getElem?_eq_some_iff.1 hu).1
    have hrow := hro.row i u rs[i] hu (List.getElem?_eq_getElem hi)
    have hlt := (hrow.lt g hgu).2.2
    have hnn := own_ne hrow.1 ho.1 (fun e => hne e.symm) g hgu
    exact (hg.block g (by simp; omega) (fun e => hnn e.symm)).trans (hold g hlt)
  · have hlt := (hnew.lt g hg').2.2
    have hnn := own_ne hnew.1 ho.1 (fun e => hne e.symm) g hg'
    exact (hg.block g (by simp; omega) (fun e => hnn e.symm)).trans (hold g hlt)
end
theorem own_lit2 (w : World) (x y : Int) (t : TypeId) : Own (w.alloc (.cells #[.int .i64 x, .int .i64 y] t)) w.heap.size (w.heap.size + 1) t 1 (.slice (some ⟨w.heap.size, 0, none⟩) 2 2) 2 (rInt64 [x, y]) :=
  own_of_block (r := rInt64 [x, y]) (heap_alloc_new w _) (Nat.le_refl _) (Nat.lt_succ_self _) (by simp [rInt64_length, maxLen])
theorem rd_lit2b (w : World) (x y : Int) (t : TypeId) : Rd (w.alloc (.cells #[.int .i64 x, .int .i64 y] t)) w.heap.size (w.heap.size + 1) 1 (some ⟨w.heap.size, 0, none⟩) 2 (rInt64 [x, y]) := by
  obtain ⟨A, c, e, _, _, h⟩ := (own_lit2 w x y t).rd
  injection e with e1 e2 e3
  subst e1
  exact h

set_option maxRecDepth 100000 in
set_option maxHeartbeats 8000000 in
theorem l17Next_any (A : Option Addr) (n c' lo hi : Nat) (T : List (List Bool)) (ok : okT T = true) (a b : Int) (ha0 : 0 ≤ a) (ha1 : a ≤ 23) (hb0 : 0 ≤ b) (hb1 : b ≤ 23) (w : World) (h : RdSS w lo hi A n (rrBool T)) (hhi : hi ≤ w.heap.size) :
    Calls Tryd.prog 33 #[.slice A n c', .int .i64 a, .int .i64 b] w fun e w' => ∃ v, e = .returned v ∧ OwnSS w' w.heap.size w'.heap.size 27 2 v (nxt T a b).length (rrInt64 ((nxt T a b).map pr2)) ∧ Below w.heap.size w w' := by
  obtain ⟨i0, hi0, hz0, hz1, hz2⟩ := info_parts infoSInt64
  have I := hide (And.intro hi0 (And.intro hz0 (And.intro hz1 hz2)))
  obtain rfl := tab_n h ok
  have H2 := hide h
  have HO := hide ok
  have HNE : Hid ((27 : TypeId) ≠ 2) := hide (by decide)
  have HF : Hid ((nxtTo T a b 24).length = (nxt T a b).length) := hide (by rw [nxtTo_all, List.length_map])
  have HG := hide (nxtTo_all T a b)
  clear hi0 hz0 hz1 hz2 h ok
  go_enter Tryd.func33, Tryd.ntmps33
  go_wp2_with fail
  go_loopw [7, 8] (fun v i wr => ∃ k m : Nat, k ≤ 24 ∧ i = .int .i64 k ∧ m ≤ k * 24 ∧ Hid ((nxtTo T a b k).length = m) ∧ Hid (OwnSS wr w.heap.size wr.heap.size 27 2 v m (rrInt64 (nxtTo T a b k))) ∧ Below w.heap.size w wr) (fun _ i _ => 24 - (intOf i).toNat)
  case atStart => exact ⟨0, 0, by omega, rfl, by omega, hide rfl, hide ⟨[], Own.of_owns (World.ownsRow_made _ _ 0 (Nat.le_refl _) (Nat.zero_le _) rfl), Rows.nil _ _ _ _⟩, (Below.refl _ _).alloc (Nat.le_refl _) _⟩
  case round =>
    obtain ⟨k, m, hk, rfl, hm, HM, HW, hbr⟩ := hrel
    have hsz := hbr.size
    by_cases hlt : k < 24
    · skip
      cases en : near a k
      · have HN := hide en
        have HE := hide (show nxtTo T a b (k + 1) = nxtTo T a b k by rw [nxtTo_succ, nxtIn_far en, List.append_nil])
        clear en
        go_wp2_with fail
        refine (l17Near_any _ _ (by omega) (by omega) (by omega) (by omega) _).mono ?_
        rintro e w' ⟨rfl, hw⟩
        obtain rfl := hw.symm
        rw [HN.out]
        go_wp2_with fail
        go_roundw
        case rel => exact ⟨k + 1, m, by omega, by go_num, by omega, by rw [HE.out]; exact HM, by rw [HE.out]; exact HW, hbr⟩
        case measure => simp [intOf]; omega
      · have HN := hide en
        clear en
        go_wp2_with fail
        refine (l17Near_any _ _ (by omega) (by omega) (by omega) (by omega) _).mono ?_
        rintro e w' ⟨rfl, hw⟩
        obtain rfl := hw.symm
        rw [HN.out]
        go_wp2_with fail
        obtain ⟨wo, rfl⟩ : ∃ wo : World, wo = wr := ⟨_, rfl⟩
        go_loopw [7, 9] (fun v i wr => ∃ j m : Nat, j ≤ 24 ∧ i = .int .i64 j ∧ m ≤ k * 24 + j ∧ Hid ((nxtTo T a b k ++ nxtIn T a b k j).length = m) ∧ Hid (OwnSS wr w.heap.size wr.heap.size 27 2 v m (rrInt64 (nxtTo T a b k ++ nxtIn T a b k j))) ∧ Below w.heap.size w wr) (fun _ i _ => 24 - (intOf i).toNat)
        case atStart => exact ⟨0, m, by omega, rfl, by omega, by rw [nxtIn_zero, List.append_nil]; exact HM, by rw [nxtIn_zero, List.append_nil]; exact HW, hbr⟩
        case round =>
          clear HM HW hm hbr hsz
          obtain ⟨j, m2, hj, rfl, hm, HM, HW, hbr⟩ := hrel
          have hsz := hbr.size
          by_cases hlj : j < 24
          · skip
            cases en : stp T a b k j
            · have HN2 := hide en
              have HE := hide (nxtIn_no en)
              clear en
              go_wp2_with fail
              refine (l17Step_any _ 24 c' lo hi T HO.out _ _ _ _ (by omega) (by omega) (by omega) (by omega) (by omega) (by omega) (by omega) (by omega) _ (H2.out.below hbr hhi)).mono ?_
              rintro e w' ⟨rfl, hw⟩
              obtain rfl := hw.symm
              rw [HN2.out]
              go_wp2_with fail
              go_roundw
              case rel => exact ⟨j + 1, m2, by omega, by go_num, by omega, by rw [HE.out]; exact HM, by rw [HE.out]; exact HW, hbr⟩
              case measure => simp [intOf]; omega
            · have HN2 := hide en
              have HE := hide (nxtIn_yes en)
              clear en
              obtain ⟨us, ho, hro⟩ := HW.out
              have HOO := hide ho
              have HRO := hide hro
              clear ho hro
              go_wp2_with fail
              refine (l17Step_any _ 24 c' lo hi T HO.out _ _ _ _ (by omega) (by omega) (by omega) (by omega) (by omega) (by omega) (by omega) (by omega) _ (H2.out.below hbr hhi)).mono ?_
              rintro e w' ⟨rfl, hw⟩
              obtain rfl := hw.symm
              rw [HN2.out]
              go_wp2_with (at_builtin; refine wpList_append_own _ rfl (.tmp 29) (.tmp 33) 30 rfl w.heap.size 27 i0 (.slice none 0 0) 1 24 Tryd.underlying30 I.out.1 I.out.2.1 I.out.2.2.1 I.out.2.2.2 rfl (by decide) _ m2 us rfl ((HOO.out.1.alloc _).alloc _) ⟨wr.heap.size + 1, 0, none⟩ 1 1 [.slice (some ⟨wr.heap.size + 0, 0, none⟩) 2 2] rfl rfl (news_at2 _ _ _ _ (by simp)) (by simp [Value.oneCell']) (by unfold maxLen; omega) (by omega) (by simp; omega) ?_; intro v' wn hown' hgrow _)
              go_roundw
              case rel =>
                refine ⟨j + 1, m2 + 1, by omega, by go_num, by omega, hide (by rw [HE.out, ← List.append_assoc, List.length_append, HM.out]; rfl), ?_, ?_⟩
                · rw [HE.out, ← List.append_assoc, rr_snoc]
                  exact hide (ss_snoc (r := rInt64 [(k : Int), (j : Int)]) HNE.out HOO.out HRO.out hsz (by simp [rInt64_length, maxLen]) hgrow hown')
                · exact ((hbr.alloc hsz _).alloc (by simp; omega) _).grown hgrow (by simp; omega) (fun g hg => (HOO.out.lt g hg).1)
              case measure => simp [intOf]; omega
          · obtain rfl : j = 24 := by omega
            have HE := hide (nxtTo_succ T a b k)
            go_wp2_with fail
            go_roundw
            case rel => exact ⟨k + 1, m2, by omega, by go_num, by omega, by rw [HE.out]; exact HM, by rw [HE.out]; exact HW, hbr⟩
            case measure => simp [intOf]; omega
    · obtain rfl : k = 24 := by omega
      go_wp2_with fail
      go_ret
      exact ⟨_, rfl, by rw [← HF.out, HM.out, ← HG.out]; exact HW.out, hbr⟩

set_option maxRecDepth 100000 in
set_option maxHeartbeats 8000000 in
theorem stepsFrom_any (A : Option Addr) (n c' lo hi : Nat) (A1 : Option Addr) (c1 l1 h1 : Nat) (T : List (List Bool)) (ok : okT T = true) (a b : Int) (ha0 : 0 ≤ a) (ha1 : a ≤ 23) (hb0 : 0 ≤ b) (hb1 : b ≤ 23) (w : World) (h : RdSS w lo hi A n (rrBool T)) (hhi : hi ≤ w.heap.size) (hs : Rd w l1 h1 1 A1 2 (rInt64 [a, b])) (hh1 : h1 ≤ w.heap.size) :
    Calls Tryd.prog 21 #[.slice A n c', .slice A1 2 c1] w fun e w' => ∃ v, e = .returned v ∧ OwnSS w' w.heap.size w'.heap.size 27 2 v (nxt T a b).length (rrInt64 ((nxt T a b).map pr2)) ∧ Below w.heap.size w w' := by
  obtain ⟨i0, hi0, hz0, hz1, hz2⟩ := info_parts infoSInt64
  have I := hide (And.intro hi0 (And.intro hz0 (And.intro hz1 hz2)))
  obtain rfl := tab_n h ok
  have H2 := hide h
  have HO := hide ok
  have HNE : Hid ((27 : TypeId) ≠ 2) := hide (by decide)
  have HF : Hid ((nxtTo T a b 24).length = (nxt T a b).length) := hide (by rw [nxtTo_all, List.length_map])
  have HG := hide (nxtTo_all T a b)
  have HS := hide hs
  obtain ⟨bs, os, rfl, _, hbs, s0, s1⟩ := st_cells hs
  clear hs
  clear hi0 hz0 hz1 hz2 h ok
  go_enter Tryd.func21, Tryd.ntmps21
  go_wp2_with fail
  go_loopw [5, 9] (fun v i wr => ∃ k m : Nat, k ≤ 24 ∧ i = .int .i64 k ∧ m ≤ k * 24 ∧ Hid ((nxtTo T a b k).length = m) ∧ Hid (OwnSS wr w.heap.size wr.heap.size 27 2 v m (rrInt64 (nxtTo T a b k))) ∧ Below w.heap.size w wr) (fun _ i _ => 24 - (intOf i).toNat)
  case atStart => exact ⟨0, 0, by omega, rfl, by omega, hide rfl, hide OwnSS.nil_ _ _ _ _ _, Below.refl _ _⟩
  case round =>
    obtain ⟨k, m, hk, rfl, hm, HM, HW, hbr⟩ := hrel
    have hsz := hbr.size
    by_cases hlt : k < 24
    · skip
      have d0 := (hbr.cell (p := ⟨bs, os, none⟩) (by show bs < _; omega)).trans s0
      have d1 := (hbr.cell (p := ⟨bs, os + 1, none⟩) (by show bs < _; omega)).trans s1
      cases en : near a k
      · have HN := hide en
        have HE := hide (show nxtTo T a b (k + 1) = nxtTo T a b k by rw [nxtTo_succ, nxtIn_far en, List.append_nil])
        clear en
        go_wp2_with fail
        refine (turnBetween_any _ _ (by omega) (by omega) (by omega) (by omega) _).mono ?_
        rintro e w' ⟨rfl, hw⟩
        obtain rfl := hw.symm
        go_wp2_with fail
        refine (isTurn2_any _ _).mono ?_
        rintro e w' ⟨rfl, hw⟩
        obtain rfl := hw.symm
        rw [near_inR, HN.out]
        go_wp2_with fail
        go_roundw
        case rel => exact ⟨k + 1, m, by omega, by go_num, by omega, by rw [HE.out]; exact HM, by rw [HE.out]; exact HW, hbr⟩
        case measure => simp [intOf]; omega
      · have HN := hide en
        clear en
        go_wp2_with fail
        refine (turnBetween_any _ _ (by omega) (by omega) (by omega) (by omega) _).mono ?_
        rintro e w' ⟨rfl, hw⟩
        obtain rfl := hw.symm
        go_wp2_with fail
        refine (isTurn2_any _ _).mono ?_
        rintro e w' ⟨rfl, hw⟩
        obtain rfl := hw.symm
        rw [near_inR, HN.out]
        go_wp2_with fail
        obtain ⟨wo, rfl⟩ : ∃ wo : World, wo = wr := ⟨_, rfl⟩
        go_loopw [5, 19] (fun v i wr => ∃ j m : Nat, j ≤ 24 ∧ i = .int .i64 j ∧ m ≤ k * 24 + j ∧ Hid ((nxtTo T a b k ++ nxtIn T a b k j).length = m) ∧ Hid (OwnSS wr w.heap.size wr.heap.size 27 2 v m (rrInt64 (nxtTo T a b k ++ nxtIn T a b k j))) ∧ Below w.heap.size w wr) (fun _ i _ => 24 - (intOf i).toNat)
        case atStart => exact ⟨0, m, by omega, rfl, by omega, by rw [nxtIn_zero, List.append_nil]; exact HM, by rw [nxtIn_zero, List.append_nil]; exact HW, hbr⟩
        case round =>
          clear HM HW hm hbr hsz d0 d1
          obtain ⟨j, m2, hj, rfl, hm, HM, HW, hbr⟩ := hrel
          have hsz := hbr.size
          by_cases hlj : j < 24
          · skip
            cases en : stp T a b k j
            · have HN2 := hide en
              have HE := hide (nxtIn_no en)
              clear en
              go_wp2_with fail
              have hba : Below w.heap.size w (wr.alloc (.cells #[.int .i64 (k : Int), .int .i64 (j : Int)] 2)) := hbr.alloc hsz _
              have hsa := hba.size
              refine (allowed_any _ _ _ 24 c' c1 2 lo hi l1 h1 wr.heap.size (wr.heap.size + 1) T HO.out a b (k : Int) (j : Int) (by omega) (by omega) (by omega) (by omega) (by omega) (by omega) (by omega) (by omega) _ (H2.out.below hba hhi) (by omega) (HS.out.below hba hh1) (by omega) (rd_lit2b wr k j _) (by simp)).mono ?_
              rintro e w2 ⟨rfl, hb2⟩
              rw [HN2.out]
              have hb3 := hba.trans (hb2.mono hsa)
              have hs2 := hb2.size
              have hs3 : wr.heap.size + 1 ≤ w2.heap.size := by simpa using hs2
              have hbq : Below wr.heap.size wr w2 := ((Below.refl _ _).alloc (Nat.le_refl _) _).trans (hb2.mono (by simp))
              go_wp2_with fail
              go_roundw
              case rel => exact ⟨j + 1, m2, by omega, by go_num, by omega, by rw [HE.out]; exact HM, by rw [HE.out]; exact hide ((HW.out.below hbq (Nat.le_refl _)).mono (Nat.le_refl _) (by omega)), hb3⟩
              case measure => simp [intOf]; omega
            · have HN2 := hide en
              have HE := hide (nxtIn_yes en)
              clear en
              go_wp2_with fail
              have hba : Below w.heap.size w (wr.alloc (.cells #[.int .i64 (k : Int), .int .i64 (j : Int)] 2)) := hbr.alloc hsz _
              have hsa := hba.size
              refine (allowed_any _ _ _ 24 c' c1 2 lo hi l1 h1 wr.heap.size (wr.heap.size + 1) T HO.out a b (k : Int) (j : Int) (by omega) (by omega) (by omega) (by omega) (by omega) (by omega) (by omega) (by omega) _ (H2.out.below hba hhi) (by omega) (HS.out.below hba hh1) (by omega) (rd_lit2b wr k j _) (by simp)).mono ?_
              rintro e w2 ⟨rfl, hb2⟩
              rw [HN2.out]
              have hb3 := hba.trans (hb2.mono hsa)
              have hs2 := hb2.size
              have hs3 : wr.heap.size + 1 ≤ w2.heap.size := by simpa using hs2
              have hbq : Below wr.heap.size wr w2 := ((Below.refl _ _).alloc (Nat.le_refl _) _).trans (hb2.mono (by simp))
              obtain ⟨us, ho, hro⟩ := HW.out
              have HOO := hide ((ho.below hbq (Nat.le_refl _)).mono (Nat.le_refl _) (show wr.heap.size ≤ w2.heap.size by omega))
              have HRO := hide (hro.below hbq (Nat.le_refl _))
              have HNW := hide (((own_lit2 wr k j 2).below hb2 (by simp)).mono (Nat.le_refl _) hs3)
              clear ho hro
              go_wp2_with (at_builtin; refine wpList_append_own _ rfl (.tmp 29) (.tmp 31) 30 rfl w.heap.size 27 i0 (.slice none 0 0) 1 24 Tryd.underlying30 I.out.1 I.out.2.1 I.out.2.2.1 I.out.2.2.2 rfl (by decide) _ m2 us rfl (HOO.out.1.alloc _) ⟨w2.heap.size, 0, none⟩ 1 1 [.slice (some ⟨wr.heap.size, 0, none⟩) 2 2] rfl rfl (news_at2 _ _ _ _ rfl) (by simp [Value.oneCell']) (by unfold maxLen; omega) (by omega) (by simp; omega) ?_; intro v' wn hown' hgrow _)
              go_roundw
              case rel =>
                refine ⟨j + 1, m2 + 1, by omega, by go_num, by omega, hide (by rw [HE.out, ← List.append_assoc, List.length_append, HM.out]; rfl), ?_, ?_⟩
                · rw [HE.out, ← List.append_assoc, rr_snoc]
                  exact hide (ss_snoc3 (r := rInt64 [(k : Int), (j : Int)]) HNE.out HOO.out HRO.out HNW.out hsz (by omega) hgrow hown')
                · exact (hb3.alloc (by omega) _).grown hgrow (by simp; omega) (fun g hg => (HOO.out.lt g hg).1)
              case measure => simp [intOf]; omega
          · obtain rfl : j = 24 := by omega
            have HE := hide (nxtTo_succ T a b k)
            go_wp2_with fail
            go_roundw
            case rel => exact ⟨k + 1, m2, by omega, by go_num, by omega, by rw [HE.out]; exact HM, by rw [HE.out]; exact HW, hbr⟩
            case measure => simp [intOf]; omega
    · obtain rfl : k = 24 := by omega
      go_wp2_with fail
      go_ret
      exact ⟨_, rfl, by rw [← HF.out, HM.out, ← HG.out]; exact HW.out, hbr⟩

end Go.Proofs.YtnbahmjimnhfbaaDoor
