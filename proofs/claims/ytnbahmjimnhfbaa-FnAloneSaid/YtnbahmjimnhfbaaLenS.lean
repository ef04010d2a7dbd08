/-
  THE LENGTHS OF SHORTEST ROUTES: the reference's. No condition but those that each theorem names.
-/
import Derived.Test.YtnbahmjimnhfbaaSrch
import Derived.Deep.DeepCutAuto
namespace Go.Proofs.Ytnbahmjimnhfbaa
open Go.RowKit
set_option linter.unusedVariables false

set_option maxRecDepth 100000 in
set_option maxHeartbeats 16000000 in
theorem l17Lengths_any (A A1 : Option Addr) (n c' c1 lo hi l1 h1 : Nat) (T : List (List Bool)) (ok : okT T = true) (x y : Int) (hx0 : 0 ≤ x) (hx1 : x ≤ 23) (hy0 : 0 ≤ y) (hy1 : y ≤ 23) (w : World) (h : RdSS w lo hi A n (rrBool T)) (hhi : hi ≤ w.heap.size) (hs : Rd w l1 h1 1 A1 2 (rInt64 [x, y])) (hh1 : h1 ≤ w.heap.size) :
    Calls Try.prog 65 #[.slice A n c', .slice A1 2 c1] w fun e w' => ∃ v, e = .returned v ∧ OwnSS w' w.heap.size w'.heap.size 25 2 v 24 (rrInt64 (lens T (x, y))) ∧ Below w.heap.size w w' := by
  obtain ⟨i0, hi0, hz0, hz1, hz2⟩ := info_parts infoSInt64
  obtain ⟨j0, hj0, hq0, hq1, hq2⟩ := info_parts infoInt64
  have I := hide (And.intro hi0 (And.intro hz0 (And.intro hz1 hz2)))
  have II := hide (And.intro hj0 (And.intro hq0 (And.intro hq1 hq2)))
  obtain rfl := tab_n h ok
  obtain ⟨kx, rfl⟩ : ∃ k : Nat, x = k := ⟨x.toNat, by omega⟩
  obtain ⟨ky, rfl⟩ : ∃ k : Nat, y = k := ⟨y.toNat, by omega⟩
  have H2 := hide h
  have HO := hide ok
  have HNE : Hid ((25 : TypeId) ≠ 2) := hide (by decide)
  obtain ⟨bs, os, rfl, _, hbs, s0, s1⟩ := st_cells hs
  have HS := hide (show w.cell? ⟨bs, os, none⟩ = some (.int .i64 (kx : Int)) ∧ w.cell? ⟨bs, os + 1, none⟩ = some (.int .i64 (ky : Int)) from ⟨s0, s1⟩)
  have HST : Hid (stOk ((kx : Int), (ky : Int))) := hide ⟨⟨hx0, hx1⟩, hy0, hy1⟩
  clear hi0 hz0 hz1 hz2 hj0 hq0 hq1 hq2 h ok hs s0 s1
  go_enter Try.func65, Try.ntmps65
  go_wp2_with fail
  go_loopw [5, 6] (fun v i wr => ∃ k : Nat, k ≤ 24 ∧ i = .int .i64 k ∧ Hid (OwnSS wr w.heap.size wr.heap.size 25 2 v k (rrInt64 (negs k))) ∧ Below w.heap.size w wr) (fun _ i _ => 24 - (intOf i).toNat)
  case atStart => exact ⟨0, by omega, rfl, hide ⟨[], Own.of_owns (World.ownsRow_made _ _ 0 (Nat.le_refl _) (Nat.zero_le _) rfl), Rows.nil _ _ _ _⟩, (Below.refl _ _).alloc (Nat.le_refl _) _⟩
  case round =>
    obtain ⟨k, hk, rfl, HW, hbr⟩ := hrel
    have hsz := hbr.size
    by_cases hlt : k < 24
    · skip
      go_wp2_with (at_make; refine wpList_make_full _ rfl (.const (.int .i64 24)) (.const (.int .i64 24)) 25 rfl wr.heap.size 2 j0 (.int .i64 0) 1 Try.underlying25 II.out.1 II.out.2.1 II.out.2.2.1 .i64 .i64 _ _ 24 rfl rfl rfl rfl (by rw [II.out.2.2.2]; omega) (by unfold maxLen; omega) (Nat.le_refl _) ?_; intro w1 hown hg)
      have hb1 : Below wr.heap.size wr w1 := (Below.refl _ _).grown hg (Nat.le_refl _) (by simp)
      have hzl : (madeCells (Value.cells (.int .i64 0)) (24 * 1)).toList.length = (rInt64 (List.replicate 24 (-1))).length := by rw [hown.1]; rfl
      generalize (madeCells (Value.cells (.int .i64 0)) (24 * 1)).toList = zs at *
      have Hz := hide hzl
      have HWN := hide hown
      clear hzl hown hg
      try go_wp2_with fail
      obtain ⟨wo, rfl⟩ : ∃ wo : World, wo = wr := ⟨_, rfl⟩
      go_loopw [8] (fun i wr => ∃ j : Nat, j ≤ 24 ∧ i = .int .i64 j ∧ wr.ownsRow wo.heap.size 2 1 (.slice (some ⟨wo.heap.size, 0, none⟩) 24 24) 24 (fill (rInt64 (List.replicate 24 (-1))) zs j) ∧ Below wo.heap.size wo wr) (fun i _ => 24 - (intOf i).toNat)
      case atStart => exact ⟨0, by omega, rfl, by rw [fill_zero]; exact HWN.out, hb1⟩
      case round =>
        clear hb1
        obtain ⟨j, hj, rfl, ho, hbq⟩ := hrel
        by_cases hlj : j < 24
        · obtain ⟨u0, hu0⟩ := fill_get1 (m := j) (j := j) Hz.out (by omega) (show j < 24 from hlj)
          have d0 : wr.cell? ⟨wo.heap.size, j, none⟩ = some u0 := (ho.cellAt _ (by omega)).trans hu0
          have f0 := ho.frozenAt j
          clear hu0
          go_wp2_with fail
          go_roundw
          case rel =>
            refine ⟨j + 1, by omega, by go_num, ?_, (hbq.setCell (Nat.le_refl _) _)⟩
            have s := (ho.stored j (.int .i64 (-1))).1
            rw [fill_set Hz.out (rneg_at j hlj)] at s
            first | exact s | simpa using s
          case measure => simp [intOf]; omega
        · obtain rfl : j = 24 := by omega
          rw [fill_all (m := 24) Hz.out rfl] at ho
          have hsq := hbq.size
          have HNW := hide (Own.of_owns ho)
          obtain ⟨us, ho1, hro⟩ := HW.out
          have HOO := hide ((ho1.below hbq (Nat.le_refl _)).mono (Nat.le_refl _) hsq)
          have HRO := hide (hro.below hbq (Nat.le_refl _))
          have hbt := hbr.trans (hbq.mono hsz)
          clear ho ho1 hro
          go_wp2_with (at_builtin; refine wpList_append_own _ rfl (.tmp 30) (.tmp 32) 32 rfl w.heap.size 25 i0 (.slice none 0 0) 1 24 Try.underlying32 I.out.1 I.out.2.1 I.out.2.2.1 I.out.2.2.2 rfl (by decide) _ k us rfl (HOO.out.1.alloc _) ⟨wr.heap.size, 0, none⟩ 1 1 [.slice (some ⟨wo.heap.size, 0, none⟩) 24 24] rfl rfl (news_at2 _ _ _ _ rfl) (by simp [Value.oneCell']) (by unfold maxLen; omega) (by omega) (by simp; omega) ?_; intro v' wn hown' hgrow _)
          go_roundw
          case rel =>
            refine ⟨k + 1, by omega, by go_num, ?_, ?_⟩
            · rw [negs_succ, rr_snoc]
              exact hide (ss_snoc3 (r := rInt64 (List.replicate 24 (-1))) HNE.out HOO.out HRO.out HNW.out hsz hsq hgrow hown')
            · exact (hbt.alloc (by omega) _).grown hgrow (by simp; omega) (fun g hg => (HOO.out.lt g hg).1)
          case measure => simp [intOf]; omega
    · obtain rfl : k = 24 := by omega
      rw [negs_all] at HW
      obtain ⟨us, ho, _⟩ := HW.out
      obtain ⟨gv, cv, rfl⟩ := Joins.ownsRow_form ho.1 (by omega)
      clear ho
      obtain ⟨w1, rfl⟩ : ∃ w1 : World, w1 = wr := ⟨_, rfl⟩
      obtain ⟨hv1, hv2, g1, cg1, hg1, hg2, kc, kx', kf, kput⟩ := dcell HW.out HNE.out (Nat.le_refl _) blank_ok kx ky (by omega) (by omega)
      have KP := hide (kput 0)
      have s0 := (hbr.cell (p := ⟨bs, os, none⟩) (by show bs < _; omega)).trans HS.out.1
      have s1 := (hbr.cell (p := ⟨bs, os + 1, none⟩) (by show bs < _; omega)).trans HS.out.2
      clear kput HW
      have bx1 : (kx : Int) < 24 := by omega
      have by1 : (ky : Int) < 24 := by omega
      go_wp2_with fail
      go_still_tail 10, (by kernel_rfl)
      go_wp2_with fail
      obtain ⟨wa, hwa⟩ : ∃ wa : World, (w1.setCell ⟨g1, ky, none⟩ (.int .i64 0)).drew = wa := ⟨_, rfl⟩
      rw [hwa]
      have hza : wa.heap.size = w1.heap.size := by rw [← hwa]; exact setCell_size w1 _ _
      have hba : Below w.heap.size w wa := by rw [← hwa]; exact (hbr.setCell (show w.heap.size ≤ (Addr.mk g1 ky none).block from hg1) _).trans (below_drew _ _)
      have HD := hide (show OwnSS wa w.heap.size w1.heap.size 25 2 (.slice (some ⟨gv, 0, none⟩) 24 cv) 24 (rrInt64 (dset blank kx ky 0)) from by rw [← hwa]; exact OwnSS.drewd KP.out)
      have hsa := hba.size
      have HZA := hide hza
      clear hza
      have s0 := (hba.cell (p := ⟨bs, os, none⟩) (by show bs < _; omega)).trans HS.out.1
      have s1 := (hba.cell (p := ⟨bs, os + 1, none⟩) (by show bs < _; omega)).trans HS.out.2
      clear hwa KP kc kx' kf
      go_still_tail 6, (by kernel_rfl)
      go_wp2_with fail
      go_loopw [9, 10] (fun v i wr => ∃ k nq : Nat, k ≤ nq ∧ i = .int .i64 k ∧ nq ≤ 576 ∧ Hid ((run T ((kx : Int), (ky : Int)) k).2.length = nq) ∧ Hid (OwnSS wr w.heap.size w1.heap.size 25 2 (.slice (some ⟨gv, 0, none⟩) 24 cv) 24 (rrInt64 (run T ((kx : Int), (ky : Int)) k).1)) ∧ Hid (QOk wr w1.heap.size 25 2 v nq (run T ((kx : Int), (ky : Int)) k).2) ∧ w1.heap.size ≤ wr.heap.size ∧ Below w.heap.size w wr) (fun _ i _ => 576 - (intOf i).toNat)
      case atStart =>
        have hb2 : Below wa.heap.size wa ((wa.alloc (.cells #[.int .i64 (kx : Int), .int .i64 (ky : Int)] 2)).alloc (.cells #[.slice (some ⟨wa.heap.size, 0, none⟩) 2 2] 25)) := ((Below.refl _ _).alloc (Nat.le_refl _) _).alloc (by simp) _
        have hza := HZA.out
        have hz2 := hb2.size
        exact ⟨0, 1, by omega, rfl, by omega, hide rfl, hide (OwnSS.drewd (HD.out.below hb2 (by omega))), hide (q_start wa w1.heap.size kx ky HNE.out (by omega)).drewd, (by show _ ≤ (World.drew _).heap.size; rw [show ∀ W : World, W.drew.heap.size = W.heap.size from fun _ => rfl]; omega), (hba.trans (hb2.mono hsa)).trans (below_drew _ _)⟩
      case round =>
        clear HD hba hsa HZA s0 s1
        obtain ⟨k, nq, hk, rfl, hnq, HN, HD, HQ, hH, hbr2⟩ := hrel
        have hsz := hbr2.size
        by_cases hlt : k < nq
        · skip
          have HI := hide (run_inv T HST.out k)
          have HR1 := hide (run_succ T ((kx : Int), (ky : Int)) k (by rw [HN.out]; exact hlt))
          have hq : (run T ((kx : Int), (ky : Int)) k).2[k]? = some ((run T ((kx : Int), (ky : Int)) k).2[k]'(by rw [HN.out]; exact hlt)) := List.getElem?_eq_getElem _
          obtain ⟨qa, qb, hqe, hqa, hqb⟩ := st_nat (HI.out.st _ (List.mem_of_getElem? hq)).1
          have HR2 := hide (show run T ((kx : Int), (ky : Int)) (k + 1) = expand T (run T ((kx : Int), (ky : Int)) k) ((qa : Int), (qb : Int)) by rw [HR1.out, hqe])
          rw [hqe] at hq
          have HM := hide (List.mem_of_getElem? hq)
          obtain ⟨gq, cq, g2, c2, rfl, hgq1, hgq2, kq, q0, q1⟩ := HQ.out.at_ hq
          clear hq hqe HR1
          obtain ⟨s, hs⟩ : ∃ s, (run T ((kx : Int), (ky : Int)) k) = s := ⟨_, rfl⟩
          rw [hs] at HN HD HQ HI HR2 HM
          clear hs
          have x1 : (qa : Int) < 24 := by omega
          have x2 : (qb : Int) < 24 := by omega
          go_wp2_with fail
          refine (l17Next_any _ 24 c' lo hi T HO.out (qa : Int) (qb : Int) (by omega) (by omega) (by omega) (by omega) _ (H2.out.below hbr2 hhi) (by omega)).mono ?_
          rintro e w2 ⟨vl, rfl, hw, hb2⟩
          have hs2 := hb2.size
          obtain ⟨nl, hnl⟩ : ∃ nl, (nxt T (qa : Int) (qb : Int)).length = nl := ⟨_, rfl⟩
          rw [hnl] at hw
          have hnl2 := nxt_len T (qa : Int) (qb : Int)
          rw [hnl] at hnl2
          have HNL := hide hnl
          clear hnl
          obtain ⟨Al, cl, rfl, hcl1, hcl2, _⟩ := hw.rd
          have HL := hide hw
          clear hw
          unfold maxLen at hcl2
          have HD2 := hide (HD.out.below hb2 hH)
          have HQ2 := hide (HQ.out.keep hs2 (fun g _ hg => hb2.block g hg))
          have HQB : Hid (∀ g, Value.ownBlock (.slice (some ⟨gq, 0, none⟩) nq cq) = some g → g < wr.heap.size ∨ w2.heap.size ≤ g) := hide (by intro g hg; simp only [Value.ownBlock, Option.some.injEq] at hg; omega)
          have hbt := hbr2.trans (hb2.mono hsz)
          clear kq q0 q1
          obtain ⟨wo, rfl⟩ : ∃ wo : World, wo = wr := ⟨_, rfl⟩
          go_wp2_with fail
          go_loopw [9, 14] (fun v i wr => ∃ j m : Nat, j ≤ nl ∧ i = .int .i64 j ∧ nq ≤ m ∧ m ≤ 576 ∧ Hid ((expandTo T s ((qa : Int), (qb : Int)) j).2.length = m) ∧ Hid (OwnSS wr w.heap.size w1.heap.size 25 2 (.slice (some ⟨gv, 0, none⟩) 24 cv) 24 (rrInt64 (expandTo T s ((qa : Int), (qb : Int)) j).1)) ∧ Hid (QOk wr w1.heap.size 25 2 v m (expandTo T s ((qa : Int), (qb : Int)) j).2) ∧ Hid (OwnSS wr wo.heap.size w2.heap.size 25 2 (.slice Al nl cl) nl (rrInt64 ((nxt T (qa : Int) (qb : Int)).map pr2))) ∧ Hid (∀ g, v.ownBlock = some g → g < wo.heap.size ∨ w2.heap.size ≤ g) ∧ w2.heap.size ≤ wr.heap.size ∧ Below w.heap.size w wr) (fun _ i _ => nl - (intOf i).toNat)
          case atStart => exact ⟨0, nq, by omega, rfl, by omega, hnq, by rw [expandTo_zero]; exact HN, by rw [expandTo_zero]; exact HD2, by rw [expandTo_zero]; exact HQ2, HL, HQB, Nat.le_refl _, hbt⟩
          case round =>
            clear HD2 HQ2 HQB HL hbt HD HQ HN
            obtain ⟨j, m, hj, rfl, hnm, hm, HN, HD, HQ, HL, HQB, hS, hbr3⟩ := hrel
            by_cases hlj : j < nl
            · skip
              have hjn : j < (nxt T (qa : Int) (qb : Int)).length := by rw [HNL.out]; exact hlj
              obtain ⟨HV, HX0, _⟩ := expandTo_inv (T := T) HI.out HM.out j
              have HVV := hide HV
              obtain ⟨ec, ed, hee, hec, hed⟩ := st_nat (nxt_ok (List.getElem_mem hjn)).1
              obtain ⟨gl, cl', ge, ce, hv, l1, l2, kl, l3, l4, e0, e1, hown⟩ := ss_at2 HL.out hjn
              rw [hee] at e0 e1 hown
              injection hv with hv1 hv2 hv3
              subst hv1
              subst hv3
              clear hv2
              obtain ⟨_, _, g3, c3, h31, h32, kc3, kx3, kf3, kput⟩ := dcell HD.out HNE.out (by omega) HV.ok ec ed hec hed
              have hbd := HV.bd (ec : Int) (ed : Int) ⟨by omega, by omega⟩ ⟨by omega, by omega⟩
              rw [HN.out] at hbd
              obtain ⟨hbd1, hbd2⟩ := hbd
              have y1 : (ec : Int) < 24 := by omega
              have y2 : (ed : Int) < 24 := by omega
              have KP := hide kput
              have HOW := hide hown
              have HEE := hide hee
              clear kput hown hee HX0 HV
              by_cases hneg : dget (expandTo T s ((qa : Int), (qb : Int)) j).1 (ec : Int) (ed : Int) < 0
              · have HY := hide (expandTo_yes (T := T) (s := s) (p := ((qa : Int), (qb : Int))) hjn (by rw [HEE.out]; exact hneg))
                rw [HEE.out] at HY
                have hcnt := (expandTo_inv (T := T) HI.out HM.out (j + 1)).1.cnt
                rw [HY.out] at hcnt
                simp only [List.length_append, List.length_singleton, HN.out] at hcnt
                have hm2 : m + 1 ≤ 576 := by omega
                clear hcnt
                obtain ⟨_, _, g4, c4, h41, h42, kc4, kx4, _, _⟩ := dcell HD.out HNE.out (by omega) HVV.out.ok qa qb hqa hqb
                have hbe := HVV.out.bd (qa : Int) (qb : Int) ⟨by omega, by omega⟩ ⟨by omega, by omega⟩
                rw [HN.out] at hbe
                obtain ⟨hbe1, hbe2⟩ := hbe
                obtain ⟨y, hy⟩ : ∃ y, dget (expandTo T s ((qa : Int), (qb : Int)) j).1 (ec : Int) (ed : Int) = y := ⟨_, rfl⟩
                obtain ⟨x, hx⟩ : ∃ x, dget (expandTo T s ((qa : Int), (qb : Int)) j).1 (qa : Int) (qb : Int) = x := ⟨_, rfl⟩
                rw [hy] at kx3 hneg hbd1 hbd2
                rw [hx] at kx4 hbe1 hbe2 HY
                clear hy hx
                have HKL := hide kl
                go_wp2_with fail
                go_still_tail 14, (by kernel_rfl)
                go_upto_region 26 with fail
                obtain ⟨wx, hwx⟩ : ∃ wx : World, (wr.setCell ⟨g3, ed, none⟩ (.int .i64 (x + 1))).drew = wx := ⟨_, rfl⟩
                rw [hwx]
                have hzx : wx.heap.size = wr.heap.size := by rw [← hwx]; exact setCell_size wr _ _
                have hbk : ∀ g, g ≠ g3 → wx.heap[g]? = wr.heap[g]? := fun g hg => by rw [← hwx]; exact setCell_block wr ⟨g3, ed, none⟩ _ g hg
                have HDx := hide (show OwnSS wx w.heap.size w1.heap.size 25 2 (.slice (some ⟨gv, 0, none⟩) 24 cv) 24 (rrInt64 (dset (expandTo T s ((qa : Int), (qb : Int)) j).1 ec ed (x + 1))) from by rw [← hwx]; exact OwnSS.drewd (KP.out _))
                have hqx := HQ.out.keep (w' := wx) (by omega) (fun g hg _ => hbk g (by omega))
                obtain ⟨us, u1, u2, u3⟩ := hqx
                obtain ⟨gu, cu, rfl⟩ := Joins.ownsRow_form u1.1 (by omega)
                have hgu1 := (u1.lt gu rfl).1
                have hgu2 : gu < wo.heap.size ∨ w2.heap.size ≤ gu := HQB.out gu rfl
                have hlx := HL.out.keepb (w' := wx) (fun g hg _ _ => hbk g (by omega))
                have klx := (World.cell?_of_block (w := wr) (w' := wx) (a := ⟨gl, j, none⟩) (hbk gl (by omega))).trans HKL.out
                have hnx := (HOW.out.of_block (w' := wx) (fun g hg => hbk g (by have := HOW.out.lt g hg; omega))).mono (show w1.heap.size ≤ wo.heap.size by omega) (show w2.heap.size ≤ wx.heap.size by omega)
                have hbx : Below w.heap.size w wx := by rw [← hwx]; exact (hbr3.setCell (show w.heap.size ≤ (Addr.mk g3 ed none).block from h31) _).trans (below_drew _ _)
                have HU1 := hide u1
                have HU2 := hide u2
                have HU3 := hide u3
                have HLX := hide hlx
                have HNX := hide hnx
                have HZX := hide hzx
                have hxs : w2.heap.size ≤ wx.heap.size := by omega
                have hxh : w1.heap.size ≤ wx.heap.size := by omega
                have hxb : w.heap.size ≤ wx.heap.size := by omega
                have HH := hide hH
                have HB1 := hide (show w.heap.size ≤ w1.heap.size by omega)
                clear hwx hbk u1 u2 u3 hlx hnx hzx kc3 kx3 kf3 kc4 kx4 e0 e1 kl HQ HD HL
                go_wp2_with (at_builtin; refine wpList_append_own_at _ rfl (.tmp 114) (.tmp 119) 32 rfl w1.heap.size 25 i0 (.slice none 0 0) 1 24 Try.underlying32 I.out.1 I.out.2.1 I.out.2.2.1 I.out.2.2.2 rfl (by decide) _ m us rfl (HU1.out.1.alloc _) ⟨wx.heap.size, 0, none⟩ 1 1 [.slice (some ⟨ge, 0, none⟩) 2 ce] rfl rfl (news_at2 _ _ _ _ rfl) (by simp [Value.oneCell']) (by unfold maxLen; omega) (by omega) (by simp; omega) ?_; intro v' wn hown' hgrow _ hat)
                have HWN := hide hown'
                have HGR := hide hgrow
                have HAT := hide hat
                clear hown' hgrow hat
                go_roundw
                case rel =>
                  have hgz := HGR.out.size
                  simp at hgz
                  have keep : ∀ g, g < wx.heap.size → g ≠ gu → wn.heap[g]? = wx.heap[g]? := fun g hg hne => (HGR.out.block g (by simp; omega) (fun e => hne (Option.some.inj e))).trans (Below.block (B := wx.heap.size) ((Below.refl _ _).alloc (Nat.le_refl _) _) g hg)
                  refine ⟨j + 1, m + 1, by omega, by go_num, by omega, by omega, hide ?_, hide ?_, hide ?_, hide ?_, hide ?_, by omega, ?_⟩
                  · rw [HY.out]; show (_ ++ [_]).length = _; rw [List.length_append, HN.out]; rfl
                  · rw [HY.out]; exact HDx.out.keepb (fun g _ h2 h3 => keep g h3 (by omega))
                  · rw [HY.out]; exact QOk.snoc HNE.out HU1.out HU2.out HU3.out HNX.out HGR.out HWN.out
                  · exact HLX.out.keepb (fun g h1 h2 h3 => keep g h3 (by omega))
                  · intro g hg
                    rcases HAT.out with e | e
                    · rw [e] at hg; exact HQB.out g hg
                    · rw [e] at hg; have := Option.some.inj hg; simp at this; omega
                  · exact (hbx.alloc hxb _).grown HGR.out (by simp; omega) (fun g hg => by have := (HU1.out.lt g hg).1; have := HB1.out; omega)
                case measure => simp [intOf]; omega
              · have HY := hide (expandTo_no (T := T) (s := s) (p := ((qa : Int), (qb : Int))) hjn (by rw [HEE.out]; exact hneg))
                have hneg2 : 0 ≤ dget (expandTo T s ((qa : Int), (qb : Int)) j).1 (ec : Int) (ed : Int) := by omega
                obtain ⟨y, hy⟩ : ∃ y, dget (expandTo T s ((qa : Int), (qb : Int)) j).1 (ec : Int) (ed : Int) = y := ⟨_, rfl⟩
                rw [hy] at kx3 hneg hneg2 hbd1 hbd2
                clear hy
                go_wp2_with fail
                go_roundw
                case rel => exact ⟨j + 1, m, by omega, by go_num, hnm, hm, by rw [HY.out]; exact HN, by rw [HY.out]; exact HD, by rw [HY.out]; exact HQ, HL, HQB, hS, hbr3⟩
                case measure => simp [intOf]; omega
            · obtain rfl : j = nl := by omega
              have HY := hide (expandTo_all T s ((qa : Int), (qb : Int)) j (by rw [HNL.out]; exact Nat.le_refl _))
              rw [HY.out] at HN HD HQ
              go_wp2_with fail
              go_roundw
              case rel => exact ⟨k + 1, m, by omega, by go_num, hm, by rw [HR2.out]; exact HN, by rw [HR2.out]; exact HD, by rw [HR2.out]; exact HQ, by omega, hbr3⟩
              case measure => simp [intOf]; omega
        · obtain rfl : k = nq := by omega
          obtain ⟨us, hus, _⟩ := HQ.out
          obtain ⟨Av, cv2, rfl, _, hcv2, _⟩ := hus.rd
          clear hus
          unfold maxLen at hcv2
          have HE := hide (run_end T HST.out k (by rw [HN.out]; exact Nat.le_refl _))
          go_wp2_with fail
          go_ret
          exact ⟨_, rfl, (by rw [← HE.out]; exact HD.out.mono (Nat.le_refl _) hH), hbr2⟩

end Go.Proofs.Ytnbahmjimnhfbaa
