/-
  THE LENGTHS OF SHORTEST ROUTES: the program's. No condition but those that each theorem names.
-/
import Derived.Test.YtnbahmjimnhfbaaDoorChain
import Derived.Deep.DeepCutAuto
import Derived.Deep.LoopGhost
namespace Go.Proofs.YtnbahmjimnhfbaaDoor
open Go.RowKit
set_option linter.unusedVariables false

set_option maxRecDepth 100000 in
set_option maxHeartbeats 16000000 in
theorem lengths_any (A A1 : Option Addr) (n c' c1 lo hi l1 h1 : Nat) (T : List (List Bool)) (ok : okT T = true) (x y : Int) (hx0 : 0 ≤ x) (hx1 : x ≤ 23) (hy0 : 0 ≤ y) (hy1 : y ≤ 23) (w : World) (h : RdSS w lo hi A n (rrBool T)) (hhi : hi ≤ w.heap.size) (hs : Rd w l1 h1 1 A1 2 (rInt64 [x, y])) (hh1 : h1 ≤ w.heap.size) :
    Calls Tryd.prog 20 #[.slice A n c', .slice A1 2 c1] w fun e w' => ∃ v, e = .returned v ∧ OwnSS w' w.heap.size w'.heap.size 27 2 v 24 (rrInt64 (lens T (x, y))) ∧ Below w.heap.size w w' := by
  obtain ⟨i0, hi0, hz0, hz1, hz2⟩ := info_parts infoSInt64
  obtain ⟨j0, hj0, hq0, hq1, hq2⟩ := info_parts infoInt64
  have I := hide (And.intro hi0 (And.intro hz0 (And.intro hz1 hz2)))
  have II := hide (And.intro hj0 (And.intro hq0 (And.intro hq1 hq2)))
  obtain rfl := tab_n h ok
  obtain ⟨kx, rfl⟩ : ∃ k : Nat, x = k := ⟨x.toNat, by omega⟩
  obtain ⟨ky, rfl⟩ : ∃ k : Nat, y = k := ⟨y.toNat, by omega⟩
  have H2 := hide h
  have HO := hide ok
  have HNE : Hid ((27 : TypeId) ≠ 2) := hide (by decide)
  obtain ⟨bs, os, rfl, _, hbs, s0, s1⟩ := st_cells hs
  have HS := hide (show w.cell? ⟨bs, os, none⟩ = some (.int .i64 (kx : Int)) ∧ w.cell? ⟨bs, os + 1, none⟩ = some (.int .i64 (ky : Int)) from ⟨s0, s1⟩)
  have HST : Hid (stOk ((kx : Int), (ky : Int))) := hide ⟨⟨hx0, hx1⟩, hy0, hy1⟩
  clear hi0 hz0 hz1 hz2 hj0 hq0 hq1 hq2 h ok hs s0 s1
  go_enter Tryd.func20, Tryd.ntmps20
  go_wp2_with fail
  go_loopw [5, 13] (fun v i wr => ∃ k : Nat, k ≤ 24 ∧ i = .int .i64 k ∧ Hid (OwnSS wr w.heap.size wr.heap.size 27 2 v k (rrInt64 (negs k))) ∧ Below w.heap.size w wr) (fun _ i _ => 24 - (intOf i).toNat)
  case atStart => exact ⟨0, by omega, rfl, hide (OwnSS.nil_ _ _ _ _ _), Below.refl _ _⟩
  case round =>
    obtain ⟨k, hk, rfl, HW, hbr⟩ := hrel
    have hsz := hbr.size
    by_cases hlt : k < 24
    · skip
      go_wp2_with (at_make; refine wpList_make_full _ rfl (.const (.int .i64 24)) (.const (.int .i64 24)) 27 rfl wr.heap.size 2 j0 (.int .i64 0) 1 Tryd.underlying27 II.out.1 II.out.2.1 II.out.2.2.1 .i64 .i64 _ _ 24 rfl rfl rfl rfl (by rw [II.out.2.2.2]; omega) (by unfold maxLen; omega) (Nat.le_refl _) ?_; intro w1 hown hg)
      have hb1 : Below wr.heap.size wr w1 := (Below.refl _ _).grown hg (Nat.le_refl _) (by simp)
      have hzl : (madeCells (Value.cells (.int .i64 0)) (24 * 1)).toList.length = (rInt64 (List.replicate 24 (-1))).length := by rw [hown.1]; rfl
      generalize (madeCells (Value.cells (.int .i64 0)) (24 * 1)).toList = zs at *
      have Hz := hide hzl
      have HWN := hide hown
      clear hzl hown hg
      try go_wp2_with fail
      obtain ⟨wo, rfl⟩ : ∃ wo : World, wo = wr := ⟨_, rfl⟩
      go_loopw [18] (fun i wr => ∃ j : Nat, j ≤ 24 ∧ i = .int .i64 j ∧ wr.ownsRow wo.heap.size 2 1 (.slice (some ⟨wo.heap.size, 0, none⟩) 24 24) 24 (fill (rInt64 (List.replicate 24 (-1))) zs j) ∧ Below wo.heap.size wo wr) (fun i _ => 24 - (intOf i).toNat)
      case atStart => exact ⟨0, by omega, rfl, by rw [fill_zero]; exact HWN.out, hb1⟩
      case round =>
        clear hb1
        obtain ⟨j, hj, rfl, ho, hbq⟩ := hrel
        by_cases hlj : j < 24
        · obtain ⟨u0, hu0⟩ := fill_get1 (m := j) (j := j) Hz.out (by omega) (show j < 24 from hlj)
          have d0 : wr.cell? ⟨wo.heap.size, j, none⟩ = some u0 := (ho.cellAt _ (by omega)).trans hu0
          have f0 := ho.frozenAt j
          clear hu0
          go_wp2_with fail
          go_roundw
          case rel =>
            refine ⟨j + 1, by omega, by go_num, ?_, (hbq.setCell (Nat.le_refl _) _)⟩
            have s := (ho.stored j (.int .i64 (-1))).1
            rw [fill_set Hz.out (rneg_at j hlj)] at s
            first | exact s | simpa using s
          case measure => simp [intOf]; omega
        · obtain rfl : j = 24 := by omega
          rw [fill_all (m := 24) Hz.out rfl] at ho
          have hsq := hbq.size
          have HNW := hide (Own.of_owns ho)
          obtain ⟨us, ho1, hro⟩ := HW.out
          have HOO := hide ((ho1.below hbq (Nat.le_refl _)).mono (Nat.le_refl _) hsq)
          have HRO := hide (hro.below hbq (Nat.le_refl _))
          have hbt := hbr.trans (hbq.mono hsz)
          clear ho ho1 hro
          go_wp2_with (at_builtin; refine wpList_append_own _ rfl (.tmp 25) (.tmp 27) 30 rfl w.heap.size 27 i0 (.slice none 0 0) 1 24 Tryd.underlying30 I.out.1 I.out.2.1 I.out.2.2.1 I.out.2.2.2 rfl (by decide) _ k us rfl (HOO.out.1.alloc _) ⟨wr.heap.size, 0, none⟩ 1 1 [.slice (some ⟨wo.heap.size, 0, none⟩) 24 24] rfl rfl (news_at2 _ _ _ _ rfl) (by simp [Value.oneCell']) (by unfold maxLen; omega) (by omega) (by simp; omega) ?_; intro v' wn hown' hgrow _)
          go_roundw
          case rel =>
            refine ⟨k + 1, by omega, by go_num, ?_, ?_⟩
            · rw [negs_succ, rr_snoc]
              exact hide (ss_snoc3 (r := rInt64 (List.replicate 24 (-1))) HNE.out HOO.out HRO.out HNW.out hsz hsq hgrow hown')
            · exact (hbt.alloc (by omega) _).grown hgrow (by simp; omega) (fun g hg => (HOO.out.lt g hg).1)
          case measure => simp [intOf]; omega
    · obtain rfl : k = 24 := by omega
      rw [negs_all] at HW
      obtain ⟨us, ho, _⟩ := HW.out
      obtain ⟨gv, cv, rfl⟩ := Joins.ownsRow_form ho.1 (by omega)
      clear ho
      obtain ⟨w1, rfl⟩ : ∃ w1 : World, w1 = wr := ⟨_, rfl⟩
      obtain ⟨hv1, hv2, g1, cg1, hg1, hg2, kc, kx', kf, kput⟩ := dcell HW.out HNE.out (Nat.le_refl _) blank_ok kx ky (by omega) (by omega)
      have KP := hide (kput 0)
      have s0 := (hbr.cell (p := ⟨bs, os, none⟩) (by show bs < _; omega)).trans HS.out.1
      have s1 := (hbr.cell (p := ⟨bs, os + 1, none⟩) (by show bs < _; omega)).trans HS.out.2
      clear kput HW
      have bx1 : (kx : Int) < 24 := by omega
      have by1 : (ky : Int) < 24 := by omega
      go_wp2_with fail
      go_still_tail 10, (by kernel_rfl)
      go_upto_region 13 with fail
      obtain ⟨wa, hwa⟩ : ∃ wa : World, (w1.setCell ⟨g1, ky, none⟩ (.int .i64 0)).drew = wa := ⟨_, rfl⟩
      rw [hwa]
      have hza : wa.heap.size = w1.heap.size := by rw [← hwa]; exact setCell_size w1 _ _
      have hba : Below w.heap.size w wa := by rw [← hwa]; exact (hbr.setCell (show w.heap.size ≤ (Addr.mk g1 ky none).block from hg1) _).trans (below_drew _ _)
      have HD := hide (show OwnSS wa w.heap.size w1.heap.size 27 2 (.slice (some ⟨gv, 0, none⟩) 24 cv) 24 (rrInt64 (dset blank kx ky 0)) from by rw [← hwa]; exact OwnSS.drewd KP.out)
      have hsa := hba.size
      have HZA := hide hza
      clear hza
      have s0 := (hba.cell (p := ⟨bs, os, none⟩) (by show bs < _; omega)).trans HS.out.1
      have s1 := (hba.cell (p := ⟨bs, os + 1, none⟩) (by show bs < _; omega)).trans HS.out.2
      clear hwa KP kc kx' kf
      have HST0 := hide (n_start (w := wa) (B0 := w.heap.size) (H1 := w1.heap.size) (b := bs) (off := os) (c := c1) (x := (kx : Int)) (y := (ky : Int)) (TW := 73) (by have := HZA.out; omega) (by omega) (by omega) s0 s1)
      go_wp2_with fail
      go_loopg [8, 9] 576 (fun g fp lp wr => ∃ (k nq gz : Nat) (ns : List Nat), Hid (k + g = 576) ∧ k ≤ nq ∧ nq ≤ 576 ∧ 1 ≤ nq ∧ fp = .pointer (ptrAt ns k) ∧ lp = .pointer (some ⟨gz, 0, none⟩) ∧ Hid (ns[nq - 1]? = some gz) ∧ Hid ((run T ((kx : Int), (ky : Int)) k).2.length = nq) ∧ Hid (OwnSS wr w.heap.size w1.heap.size 27 2 (.slice (some ⟨gv, 0, none⟩) 24 cv) 24 (rrInt64 (run T ((kx : Int), (ky : Int)) k).1)) ∧ Hid (NOk wr w.heap.size w1.heap.size ns (run T ((kx : Int), (ky : Int)) k).2) ∧ w1.heap.size ≤ wr.heap.size ∧ Below w.heap.size w wr)
      case atStart =>
        have hb2 : Below wa.heap.size wa (wa.alloc (.cells #[.slice (some ⟨bs, os, none⟩) 2 c1, .pointer none] 73)) := (Below.refl _ _).alloc (Nat.le_refl _) _
        have hza := HZA.out
        have hz2 := hb2.size
        exact ⟨0, 1, wa.heap.size, [wa.heap.size], hide rfl, by omega, by omega, by omega, rfl, rfl, hide rfl, hide rfl, hide (HD.out.below hb2 (by omega)), HST0, by omega, hba.trans (hb2.mono hsa)⟩
      case round =>
        clear HD hba hsa HZA s0 s1 HST0
        obtain ⟨k, nq, gz, ns, HG, hk, hnq, hnq1, rfl, rfl, HZ, HN, HD, HQ, hH, hbr2⟩ := hrel
        have hsz := hbr2.size
        by_cases hlt : k < nq
        · skip
          have HI := hide (run_inv T HST.out k)
          have HR1 := hide (run_succ T ((kx : Int), (ky : Int)) k (by rw [HN.out]; exact hlt))
          have hq : (run T ((kx : Int), (ky : Int)) k).2[k]? = some ((run T ((kx : Int), (ky : Int)) k).2[k]'(by rw [HN.out]; exact hlt)) := List.getElem?_eq_getElem _
          obtain ⟨qa, qb, hqe, hqa, hqb⟩ := st_nat (HI.out.st _ (List.mem_of_getElem? hq)).1
          have HR2 := hide (show run T ((kx : Int), (ky : Int)) (k + 1) = expand T (run T ((kx : Int), (ky : Int)) k) ((qa : Int), (qb : Int)) by rw [HR1.out, hqe])
          rw [hqe] at hq
          have HM := hide (List.mem_of_getElem? hq)
          have HNL0 := HQ.out.len
          rw [HN.out] at HNL0
          obtain ⟨gn, hgn⟩ : ∃ gn, ns[k]? = some gn := ⟨_, List.getElem?_eq_getElem (by omega)⟩
          have hpk := ptrAt_some hgn
          have HGN := hide hgn
          obtain ⟨hgn1, hgn2, nf, bq, oq, cq, n0, n1, hbq1, hbq2, r0, r1⟩ := HQ.out.at_ hgn hq
          have HRD := hide (rd_of_cells hbq2 r0 r1)
          obtain ⟨qz, hqz⟩ : ∃ qz, (run T ((kx : Int), (ky : Int)) k).2[nq - 1]? = some qz := ⟨_, List.getElem?_eq_getElem (by rw [HN.out]; omega)⟩
          have hgz0 := (HQ.out.at_ HZ.out hqz).2.1
          clear hqz
          have HQC := hide hbq1
          have HRR := hide (And.intro r0 r1)
          rw [hpk]
          clear hq hqe HR1 hgn hpk n1 nf HNL0 hbq1
          obtain ⟨s, hs⟩ : ∃ s, (run T ((kx : Int), (ky : Int)) k) = s := ⟨_, rfl⟩
          rw [hs] at HN HD HQ HI HR2 HM
          clear hs
          have x1 : (qa : Int) < 24 := by omega
          have x2 : (qb : Int) < 24 := by omega
          go_wp2_with fail
          refine (stepsFrom_any _ 24 c' lo hi (some ⟨bq, oq, none⟩) cq 0 wr.heap.size T HO.out (qa : Int) (qb : Int) (by omega) (by omega) (by omega) (by omega) _ (H2.out.below hbr2 hhi) (by omega) HRD.out (Nat.le_refl _)).mono ?_
          rintro e w2 ⟨vl, rfl, hw, hb2⟩
          have hs2 := hb2.size
          obtain ⟨nl, hnl⟩ : ∃ nl, (nxt T (qa : Int) (qb : Int)).length = nl := ⟨_, rfl⟩
          rw [hnl] at hw
          have hnl2 := nxt_len T (qa : Int) (qb : Int)
          rw [hnl] at hnl2
          have HNL := hide hnl
          clear hnl
          obtain ⟨Al, cl, rfl, hcl1, hcl2, _⟩ := hw.rd
          have HL := hide hw
          clear hw
          unfold maxLen at hcl2
          have HD2 := hide (HD.out.below hb2 hH)
          have HQ2 := hide (HQ.out.below hb2)
          have HGB : Hid (gz < wr.heap.size ∨ w2.heap.size ≤ gz) := hide (.inl hgz0)
          clear hgz0
          have HRS := hide (And.intro ((hb2.cell (p := ⟨bq, oq, none⟩) hbq2).trans HRR.out.1) ((hb2.cell (p := ⟨bq, oq + 1, none⟩) hbq2).trans HRR.out.2))
          have hbt := hbr2.trans (hb2.mono hsz)
          clear n0 r0 r1
          obtain ⟨wo, rfl⟩ : ∃ wo : World, wo = wr := ⟨_, rfl⟩
          go_wp2_with fail
          go_loopw [9, 58] (fun lp i wr => ∃ (j m gz : Nat) (ns : List Nat), j ≤ nl ∧ i = .int .i64 j ∧ nq ≤ m ∧ m ≤ 576 ∧ lp = .pointer (some ⟨gz, 0, none⟩) ∧ Hid (ns[k]? = some gn) ∧ Hid (ns[m - 1]? = some gz) ∧ Hid (gz < wo.heap.size ∨ w2.heap.size ≤ gz) ∧ Hid ((expandTo T s ((qa : Int), (qb : Int)) j).2.length = m) ∧ Hid (OwnSS wr w.heap.size w1.heap.size 27 2 (.slice (some ⟨gv, 0, none⟩) 24 cv) 24 (rrInt64 (expandTo T s ((qa : Int), (qb : Int)) j).1)) ∧ Hid (NOk wr w.heap.size w1.heap.size ns (expandTo T s ((qa : Int), (qb : Int)) j).2) ∧ Hid (OwnSS wr wo.heap.size w2.heap.size 27 2 (.slice Al nl cl) nl (rrInt64 ((nxt T (qa : Int) (qb : Int)).map pr2))) ∧ Hid (wr.cell? ⟨bq, oq, none⟩ = some (.int .i64 (qa : Int)) ∧ wr.cell? ⟨bq, oq + 1, none⟩ = some (.int .i64 (qb : Int))) ∧ w2.heap.size ≤ wr.heap.size ∧ Below w.heap.size w wr) (fun _ i _ => nl - (intOf i).toNat)
          case atStart => exact ⟨0, nq, gz, ns, by omega, rfl, by omega, hnq, rfl, HGN, HZ, HGB, by rw [expandTo_zero]; exact HN, by rw [expandTo_zero]; exact HD2, by rw [expandTo_zero]; exact HQ2, HL, HRS, Nat.le_refl _, hbt⟩
          case round =>
            clear HD2 HQ2 HL hbt HD HQ HN HZ HGN HRS HRR HRD HGB
            obtain ⟨j, m, gz, ns, hj, rfl, hnm, hm, rfl, HGN, HZ, HGB, HN, HD, HQ, HL, HRS, hS, hbr3⟩ := hrel
            by_cases hlj : j < nl
            · skip
              have hjn : j < (nxt T (qa : Int) (qb : Int)).length := by rw [HNL.out]; exact hlj
              obtain ⟨HV, HX0, _⟩ := expandTo_inv (T := T) HI.out HM.out j
              have HVV := hide HV
              obtain ⟨ec, ed, hee, hec, hed⟩ := st_nat (nxt_ok (List.getElem_mem hjn)).1
              obtain ⟨gl, cl', ge, ce, hv, l1, l2, kl, l3, l4, e0, e1, hown⟩ := ss_at2 HL.out hjn
              rw [hee] at e0 e1
              injection hv with hv1 hv2 hv3
              subst hv1
              subst hv3
              clear hv2
              obtain ⟨_, _, g3, c3, h31, h32, kc3, kx3, kf3, kput⟩ := dcell HD.out HNE.out (by omega) HV.ok ec ed hec hed
              have hbd := HV.bd (ec : Int) (ed : Int) ⟨by omega, by omega⟩ ⟨by omega, by omega⟩
              rw [HN.out] at hbd
              obtain ⟨hbd1, hbd2⟩ := hbd
              have y1 : (ec : Int) < 24 := by omega
              have y2 : (ed : Int) < 24 := by omega
              have KP := hide kput
              have HEE := hide hee
              clear kput hown hee HX0 HV
              by_cases hneg : dget (expandTo T s ((qa : Int), (qb : Int)) j).1 (ec : Int) (ed : Int) < 0
              · have HY := hide (expandTo_yes (T := T) (s := s) (p := ((qa : Int), (qb : Int))) hjn (by rw [HEE.out]; exact hneg))
                rw [HEE.out] at HY
                have hcnt := (expandTo_inv (T := T) HI.out HM.out (j + 1)).1.cnt
                rw [HY.out] at hcnt
                simp only [List.length_append, List.length_singleton, HN.out] at hcnt
                have hm2 : m + 1 ≤ 576 := by omega
                clear hcnt
                obtain ⟨_, _, g4, c4, h41, h42, kc4, kx4, _, _⟩ := dcell HD.out HNE.out (by omega) HVV.out.ok qa qb hqa hqb
                have hbe := HVV.out.bd (qa : Int) (qb : Int) ⟨by omega, by omega⟩ ⟨by omega, by omega⟩
                rw [HN.out] at hbe
                obtain ⟨hbe1, hbe2⟩ := hbe
                obtain ⟨y, hy⟩ : ∃ y, dget (expandTo T s ((qa : Int), (qb : Int)) j).1 (ec : Int) (ed : Int) = y := ⟨_, rfl⟩
                obtain ⟨x, hx⟩ : ∃ x, dget (expandTo T s ((qa : Int), (qb : Int)) j).1 (qa : Int) (qb : Int) = x := ⟨_, rfl⟩
                rw [hy] at kx3 hneg hbd1 hbd2
                rw [hx] at kx4 hbe1 hbe2 HY
                clear hy hx
                go_wp2_with fail
                go_quiet (fail)
                generalize hqq : World.drewN wr _ = wq
                have hbq3 : Below wr.heap.size wr wq := by rw [← hqq]; exact Joins.below_draws _ _ _
                have hzq : wq.heap.size = wr.heap.size := by rw [← hqq]; rfl
                have KPQ : Hid (OwnSS (wq.setCell ⟨g3, ed, none⟩ (.int .i64 (x + 1))) w.heap.size w1.heap.size 27 2 (.slice (some ⟨gv, 0, none⟩) 24 cv) 24 (rrInt64 (dset (expandTo T s ((qa : Int), (qb : Int)) j).1 ec ed (x + 1)))) := hide (by rw [← hqq]; exact (KP.out (x + 1)).below (Joins.below_draws _ _ _) (Nat.le_refl _))
                clear hqq KP
                have hqz := HQ.out.below hbq3
                have hlz := HL.out.below hbq3 hS
                have HRS2 := hide (And.intro ((hbq3.cell (p := ⟨bq, oq, none⟩) (by show bq < _; omega)).trans HRS.out.1) ((hbq3.cell (p := ⟨bq, oq + 1, none⟩) (by show bq < _; omega)).trans HRS.out.2))
                replace kc3 := (hbq3.cell (p := ⟨gv, ec, none⟩) (by show gv < _; omega)).trans kc3
                replace kx3 := (hbq3.cell (p := ⟨g3, ed, none⟩) (by show g3 < _; omega)).trans kx3
                replace kf3 := (hbq3.frozen (p := ⟨g3, ed, none⟩) (by show g3 < _; omega)).trans kf3
                replace kc4 := (hbq3.cell (p := ⟨gv, qa, none⟩) (by show gv < _; omega)).trans kc4
                replace kx4 := (hbq3.cell (p := ⟨g4, qb, none⟩) (by show g4 < _; omega)).trans kx4
                replace e0 := (hbq3.cell (p := ⟨ge, 0, none⟩) (by show ge < _; omega)).trans e0
                replace e1 := (hbq3.cell (p := ⟨ge, 1, none⟩) (by show ge < _; omega)).trans e1
                have r0 := HRS2.out.1
                have r1 := HRS2.out.2
                have HQ3 := hide hqz
                have HL3 := hide hlz
                have hbr4 := hbr3.trans (hbq3.mono (by omega))
                have HZQ := hide hzq
                have hS2 : w2.heap.size ≤ wq.heap.size := by omega
                clear hqz hlz hzq hbq3 HQ HL HD HRS kl
                go_wp2_with fail
                go_still_tail 22, (by kernel_rfl)
                go_upto_region 23 with fail
                obtain ⟨wx, hwx⟩ : ∃ wx : World, (wq.setCell ⟨g3, ed, none⟩ (.int .i64 (x + 1))).drew = wx := ⟨_, rfl⟩
                rw [hwx]
                have hzx : wx.heap.size = wq.heap.size := by rw [← hwx]; exact setCell_size wq _ _
                have hbk : ∀ g, g ≠ g3 → wx.heap[g]? = wq.heap[g]? := fun g hg => by rw [← hwx]; exact setCell_block wq ⟨g3, ed, none⟩ _ g hg
                have hcl : ∀ p : Addr, p.block ≠ g3 → wx.cell? p = wq.cell? p := fun p hp => World.cell?_of_block (hbk _ hp)
                have hfl : ∀ p : Addr, wx.frozen? p = wq.frozen? p := fun p => by rw [← hwx]; exact World.frozen?_setCell _ _ _ _
                have HDx := hide (show OwnSS wx w.heap.size w1.heap.size 27 2 (.slice (some ⟨gv, 0, none⟩) 24 cv) 24 (rrInt64 (dset (expandTo T s ((qa : Int), (qb : Int)) j).1 ec ed (x + 1))) from by rw [← hwx]; exact OwnSS.drewd KPQ.out)
                have hqx : NOk wx w.heap.size w1.heap.size ns (expandTo T s ((qa : Int), (qb : Int)) j).2 := HQ3.out.keep (by omega) (fun p hp _ => hcl p (by omega)) (fun p _ _ => hfl p)
                have HLX := hide (HL3.out.keepb (w' := wx) (fun g hg _ _ => hbk g (by omega)))
                have f0 := (hcl ⟨ge, 0, none⟩ (by show ge ≠ g3; omega)).trans e0
                have f1 := (hcl ⟨ge, 1, none⟩ (by show ge ≠ g3; omega)).trans e1
                have HRX := hide (And.intro ((hcl ⟨bq, oq, none⟩ (by show bq ≠ g3; have := HQC.out; omega)).trans r0) ((hcl ⟨bq, oq + 1, none⟩ (by show bq ≠ g3; have := HQC.out; omega)).trans r1))
                have hbx : Below w.heap.size w wx := by rw [← hwx]; exact (hbr4.setCell (show w.heap.size ≤ (Addr.mk g3 ed none).block from h31) _).trans (below_drew _ _)
                obtain ⟨qz, hqz⟩ : ∃ qz, (expandTo T s ((qa : Int), (qb : Int)) j).2[m - 1]? = some qz := ⟨_, List.getElem?_eq_getElem (by rw [HN.out]; omega)⟩
                obtain ⟨hz1, hz2, zf, _, _, _, _, zp, _, _, _, _⟩ := hqx.at_ HZ.out hqz
                rw [ptrAt_none (by rw [hqx.len, HN.out]; omega)] at zp
                have HSN := hide (hqx.snoc (q := ((ec : Int), (ed : Int))) (TW := 73) (c := ce) HN.out (by omega) HZ.out (by omega) (.inr (by omega)) (show ge < wx.heap.size by omega) f0 f1)
                have HNL2 := hide hqx.len
                have HZX := hide hzx
                have hxs : w2.heap.size ≤ wx.heap.size := by omega
                have hxh : w1.heap.size ≤ wx.heap.size := by omega
                have hxb : w.heap.size ≤ wx.heap.size := by omega
                have HB1 := hide (show w.heap.size ≤ w1.heap.size by omega)
                clear hwx hbk hcl hfl hqx hzx hqz kc3 kx3 kf3 kc4 kx4 e0 e1 f0 f1 r0 r1 HQ3 HL3 HRS2 HZQ
                go_wp2_with fail
                go_roundw
                case rel =>
                  have hbz : Below wx.heap.size wx (wx.alloc (.cells #[.slice (some ⟨ge, 0, none⟩) 2 ce, .pointer none] 73)) := (Below.refl _ _).alloc (Nat.le_refl _) _
                  have keep : ∀ g, g < wx.heap.size → g ≠ gz → ((wx.alloc (.cells #[.slice (some ⟨ge, 0, none⟩) 2 ce, .pointer none] 73)).setCell ⟨gz, 1, none⟩ (.pointer (some ⟨wx.heap.size, 0, none⟩))).heap[g]? = wx.heap[g]? := fun g hg hne => (setCell_block _ ⟨gz, 1, none⟩ _ g hne).trans (hbz.block g hg)
                  have hsz3 := setCell_size (wx.alloc (.cells #[.slice (some ⟨ge, 0, none⟩) 2 ce, .pointer none] 73)) ⟨gz, 1, none⟩ (.pointer (some ⟨wx.heap.size, 0, none⟩))
                  have hbzs := hbz.size
                  rw [← World.setCell_alloc_past (hn := hz2)]
                  refine ⟨j + 1, m + 1, wx.heap.size, ns ++ [wx.heap.size], by omega, by go_num, by omega, by omega, rfl, hide ?_, hide ?_, hide (.inr hxs), hide ?_, hide ?_, hide ?_, hide ?_, hide ⟨?_, ?_⟩, by omega, ?_⟩
                  · rw [List.getElem?_append_left (by rw [HNL2.out, HN.out]; omega)]; exact HGN.out
                  · rw [Nat.add_sub_cancel, List.getElem?_append_right (by rw [HNL2.out, HN.out]; exact Nat.le_refl _), HNL2.out, HN.out, Nat.sub_self]; rfl
                  · rw [HY.out]; show (_ ++ [_]).length = _; rw [List.length_append, HN.out]; rfl
                  · rw [HY.out]; exact HDx.out.keepb (fun g _ h2 h3 => keep g h3 (by omega))
                  · rw [HY.out]; exact HSN.out
                  · exact HLX.out.keepb (fun g h1 h2 h3 => keep g h3 (by have := HGB.out; omega))
                  · rw [World.cell?_setCell_other]
                    · exact (World.cell?_alloc_lt wx _ ⟨bq, oq, none⟩ (by show bq < _; omega)).trans HRX.out.1
                    · intro e; have hh := HRX.out.1; rw [← e, zp] at hh; cases hh
                  · rw [World.cell?_setCell_other]
                    · exact (World.cell?_alloc_lt wx _ ⟨bq, oq + 1, none⟩ (by show bq < _; omega)).trans HRX.out.2
                    · intro e; have hh := HRX.out.2; rw [← e, zp] at hh; cases hh
                  · exact (hbx.alloc hxb _).setCell (show w.heap.size ≤ (Addr.mk gz 1 none).block from by show w.heap.size ≤ gz; have := HB1.out; omega) _
                case measure => simp [intOf]; omega
              · have HY := hide (expandTo_no (T := T) (s := s) (p := ((qa : Int), (qb : Int))) hjn (by rw [HEE.out]; exact hneg))
                have hneg2 : 0 ≤ dget (expandTo T s ((qa : Int), (qb : Int)) j).1 (ec : Int) (ed : Int) := by omega
                obtain ⟨y, hy⟩ : ∃ y, dget (expandTo T s ((qa : Int), (qb : Int)) j).1 (ec : Int) (ed : Int) = y := ⟨_, rfl⟩
                rw [hy] at kx3 hneg hneg2 hbd1 hbd2
                clear hy
                go_wp2_with fail
                go_quiet (fail)
                go_wp2_with fail
                generalize hqq : World.drewN wr _ = wq
                have hbq3 : Below wr.heap.size wr wq := by rw [← hqq]; exact Joins.below_draws _ _ _
                have hzq := hbq3.size
                clear hqq
                go_roundw
                case rel => exact ⟨j + 1, m, gz, ns, by omega, by go_num, hnm, hm, rfl, HGN, HZ, HGB, by rw [HY.out]; exact HN, by rw [HY.out]; exact hide (HD.out.below hbq3 (by omega)), by rw [HY.out]; exact hide (HQ.out.below hbq3), hide (HL.out.below hbq3 hS), hide (And.intro ((hbq3.cell (p := ⟨bq, oq, none⟩) (by show bq < _; omega)).trans HRS.out.1) ((hbq3.cell (p := ⟨bq, oq + 1, none⟩) (by show bq < _; omega)).trans HRS.out.2)), by omega, hbr3.trans (hbq3.mono (by omega))⟩
                case measure => simp [intOf]; omega
            · obtain rfl : j = nl := by omega
              have HY := hide (expandTo_all T s ((qa : Int), (qb : Int)) j (by rw [HNL.out]; exact Nat.le_refl _))
              rw [HY.out] at HN HD HQ
              obtain ⟨qk, hqk⟩ : ∃ qk, (expand T s ((qa : Int), (qb : Int))).2[k]? = some qk := ⟨_, List.getElem?_eq_getElem (by rw [HN.out]; omega)⟩
              obtain ⟨_, _, _, _, _, _, n0, n1, _, _, _, _⟩ := HQ.out.at_ HGN.out hqk
              clear hqk n0
              go_wp2_with fail
              go_roundg (gk - 1)
              case rel => exact ⟨k + 1, m, gz, ns, hide (by have := HG.out; omega), by omega, hm, by omega, rfl, rfl, HZ, by rw [HR2.out]; exact HN, by rw [HR2.out]; exact HD, by rw [HR2.out]; exact HQ, by omega, hbr3⟩
              case measure => have := HG.out; omega
        · obtain rfl : k = nq := by omega
          have HE := hide (run_end T HST.out k (by rw [HN.out]; exact Nat.le_refl _))
          have hpn := ptrAt_none (ns := ns) (k := k) (by rw [HQ.out.len, HN.out]; exact Nat.le_refl _)
          rw [hpn]
          clear hpn
          go_wp2_with fail
          go_ret
          exact ⟨_, rfl, (by rw [← HE.out]; exact HD.out.mono (Nat.le_refl _) hH), hbr2⟩

end Go.Proofs.YtnbahmjimnhfbaaDoor
