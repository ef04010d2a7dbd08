/-
  THE FIRST CONFLICT OF TWO MOTIONS, the program's. No condition but those that each theorem names.
-/
import Derived.Test.YtoklcjpokffocaaFst
namespace Go.Proofs.Ytoklcjpokffocaa
open Go.RowKit
set_option linter.unusedVariables false

theorem track_m (W : World) (A : Option Addr) (n c lo hi : Nat) (st : Int) (l : List Int) (hl : l.length = n) (hm : n ≤ 4096) (hs : moV st l = true) (hw : hi ≤ W.heap.size) (h : Rd W lo hi 1 A n (rInt64 l)) (w : World) (hb : Below W.heap.size W w) :
    Calls Try.prog 45 #[.agg #[.int .i64 st, .slice A n c]] w fun e w' => ∃ v, e = .returned v ∧ Own w' W.heap.size w'.heap.size 2 1 v (n + 1) (rInt64 (trk st l n)) ∧ Below w.heap.size w w' ∧ Below W.heap.size W w' := by
  obtain ⟨hsa, a0, a1, hla⟩ := moV_true hs
  refine (track_any A n c lo hi st l hl (by omega) hsa a0 a1 w (by have := hb.size; omega) (h.below hb hw)).mono ?_
  rintro e w' ⟨v, rfl, ho, hb'⟩
  exact ⟨v, rfl, ho.mono hb.size (Nat.le_refl _), hb', hb.trans (hb'.mono hb.size)⟩

theorem at_m (A : Option Addr) (n c lo hi : Nat) (st : Int) (l : List Int) (hl : l.length = n) (hm : n ≤ 4096) (k : Nat) (hk : k ≤ 5000) (x : Int) (hx : x = (k : Int)) (w : World) (h : Rd w lo hi 1 A (n + 1) (rInt64 (trk st l n))) :
    Calls Try.prog 47 #[.slice A (n + 1) c, .int .i64 x] w fun e w' => e = .returned (.int .i64 (moAt st l k)) ∧ w' = w := by
  subst hx
  have q := at_any A (n + 1) c lo hi (trk st l n) (trk_len st l n) (by unfold maxLen; omega) (by omega) k (by unfold maxLen; omega) w h
  rw [trk_at st l (by omega)] at q
  rcases Nat.le_total k n with hkn | hkn
  · rw [show min k (n + 1 - 1) = k by omega] at q
    exact q
  · rw [show min k (n + 1 - 1) = n by omega] at q
    rw [moAt_big st l (k := k) (by omega), hl]
    exact q

set_option maxRecDepth 100000 in
set_option maxHeartbeats 1000000 in
theorem firstConflict_any (A : Option Addr) (n c lo hi : Nat) (T : List (List Bool)) (ok : okT T = true) (Aa Ab : Option Addr) (na ca loa hia nb cb lob hib : Nat) (a b : Int) (la lb : List Int) (va : moV a la = true) (vb : moV b lb = true) (w : World) (h : RdSS w lo hi A n (rrBool T)) (hw : hi ≤ w.heap.size)
    (hRa : Rd w loa hia 1 Aa na (rInt64 la)) (hna : la.length = na) (hha : hia ≤ w.heap.size) (hRb : Rd w lob hib 1 Ab nb (rInt64 lb)) (hnb : lb.length = nb) (hhb : hib ≤ w.heap.size) :
    Calls Try.prog 20 #[.slice A n c, .agg #[.int .i64 a, .slice Aa na ca], .agg #[.int .i64 b, .slice Ab nb cb]] w fun e w' => e = .returned (.int .i64 (fstV T a la b lb)) ∧ Below w.heap.size w w' := by
  obtain ⟨hsa, a0, a1, hla⟩ := moV_true va
  obtain ⟨hsb, b0, b1, hlb⟩ := moV_true vb
  have hn : n = 24 := by have := h.length; rw [rrBool_len, okT_len ok] at this; omega
  subst hn
  have HT := hide h
  have OK := hide ok
  have VA := hide va
  have VB := hide vb
  have HRA := hide hRa
  have HRB := hide hRb
  have HNA := hide hna
  have HNB := hide hnb
  have hma : na ≤ 4096 := by omega
  have hmb : nb ≤ 4096 := by omega
  clear h ok va vb hRa hRb hna hnb hsa hsb
  go_enter Try.func20, Try.ntmps20
  go_upto_region 1 with fail
  obtain ⟨wx, hwx⟩ : ∃ wx, ((w.alloc (.cells #[.int .i64 a, .slice Aa na ca] 27)).alloc (.cells #[.int .i64 b, .slice Ab nb cb] 27)) = wx := ⟨_, rfl⟩
  have hb0 : Below w.heap.size w wx := by rw [← hwx]; exact Below.alloc (below_al _ _) (by simp) _
  have hs0 : wx.heap.size = w.heap.size + 2 := by rw [← hwx]; simp
  have HS : Hid (wx.cell? ⟨w.heap.size, 0, none⟩ = some (.int .i64 a) ∧ wx.cell? ⟨w.heap.size, 1, none⟩ = some (.slice Aa na ca) ∧ wx.cell? ⟨w.heap.size + 1, 0, none⟩ = some (.int .i64 b) ∧ wx.cell? ⟨w.heap.size + 1, 1, none⟩ = some (.slice Ab nb cb)) := by
    rw [← hwx]
    have B1 := box_new w #[.int .i64 a, .slice Aa na ca] 27
    have B2 := box_new (w.alloc (.cells #[.int .i64 a, .slice Aa na ca] 27)) #[.int .i64 b, .slice Ab nb cb] 27
    rw [World.size_alloc] at B2
    exact hide ⟨B1.moreAt _ 0 _ rfl, B1.moreAt _ 1 _ rfl, B2 0 _ rfl, B2 1 _ rfl⟩
  rw [hwx]
  clear hwx
  have HB0 := hide hb0
  clear hb0
  have l0 : w.heap.size < wx.heap.size := by omega
  have l1 : w.heap.size + 1 < wx.heap.size := by omega
  go_region_held3 (fun W => W.cell? ⟨w.heap.size, 0, none⟩ = some (.int .i64 a) ∧ W.cell? ⟨w.heap.size, 1, none⟩ = some (.slice Aa na ca) ∧ W.cell? ⟨w.heap.size + 1, 0, none⟩ = some (.int .i64 b) ∧ W.cell? ⟨w.heap.size + 1, 1, none⟩ = some (.slice Ab nb cb)) (first | (with_reducible exact HS.out) | exact HS.out) (first | (go_at_call 45; (with_reducible refine (track_m w Aa na ca loa hia a la HNA.out hma VA.out hha HRA.out _ (Below.drew HB0.out)).mono ?_); rintro e w1 ⟨v1, rfl, ho1, hb1, hc1⟩; have HS : Hid (w1.cell? ⟨w.heap.size, 0, none⟩ = some (.int .i64 a) ∧ w1.cell? ⟨w.heap.size, 1, none⟩ = some (.slice Aa na ca) ∧ w1.cell? ⟨w.heap.size + 1, 0, none⟩ = some (.int .i64 b) ∧ w1.cell? ⟨w.heap.size + 1, 1, none⟩ = some (.slice Ab nb cb)) := hide ⟨(hb1.cell (p := ⟨w.heap.size, 0, none⟩) l0).trans HS.out.1, (hb1.cell (p := ⟨w.heap.size, 1, none⟩) l0).trans HS.out.2.1, (hb1.cell (p := ⟨w.heap.size + 1, 0, none⟩) l1).trans HS.out.2.2.1, (hb1.cell (p := ⟨w.heap.size + 1, 1, none⟩) l1).trans HS.out.2.2.2⟩; have HO1 := hide ho1; have HB1 := hide hb1; have HC1 := hide hc1; have hz1 : wx.heap.size ≤ w1.heap.size := hb1.size; clear ho1 hb1 hc1) | (go_at_call 45; (with_reducible refine (track_m w Ab nb cb lob hib b lb HNB.out hmb VB.out hhb HRB.out _ HC1.out).mono ?_); rintro e w2 ⟨v2, rfl, ho2, hb2, hc2⟩; have HS : Hid (w2.cell? ⟨w.heap.size, 0, none⟩ = some (.int .i64 a) ∧ w2.cell? ⟨w.heap.size, 1, none⟩ = some (.slice Aa na ca) ∧ w2.cell? ⟨w.heap.size + 1, 0, none⟩ = some (.int .i64 b) ∧ w2.cell? ⟨w.heap.size + 1, 1, none⟩ = some (.slice Ab nb cb)) := hide ⟨(hb2.cell (p := ⟨w.heap.size, 0, none⟩) (by show w.heap.size < w1.heap.size; omega)).trans HS.out.1, (hb2.cell (p := ⟨w.heap.size, 1, none⟩) (by show w.heap.size < w1.heap.size; omega)).trans HS.out.2.1, (hb2.cell (p := ⟨w.heap.size + 1, 0, none⟩) (by show w.heap.size + 1 < w1.heap.size; omega)).trans HS.out.2.2.1, (hb2.cell (p := ⟨w.heap.size + 1, 1, none⟩) (by show w.heap.size + 1 < w1.heap.size; omega)).trans HS.out.2.2.2⟩; have HO2 := hide ho2; have HB2 := hide hb2; have HC2 := hide hc2; have hz2 : w1.heap.size ≤ w2.heap.size := hb2.size; clear ho2 hb2 hc2))
  have HZ2 := hide (HO1.out.below HB2.out (Nat.le_refl _))
  have hz3 : w.heap.size ≤ w2.heap.size := by omega
  have HT2 := hide (HT.out.below HC2.out hw)
  obtain ⟨A3, c3, rfl, hn3, hm3, hr3⟩ := HZ2.out.rd
  obtain ⟨A4, c4, rfl, hn4, hm4, hr4⟩ := HO2.out.rd
  have HR3 := hide hr3
  have HR4 := hide hr4
  clear hr3 hr4 HS HO1 HO2 HZ2 HB1 HB2 HC1 HB0 HT
  obtain ⟨x3, o3, rfl, hx1, hx2, hcx⟩ := mo_cells HR3.out (trk_len a la na) (by omega)
  obtain ⟨x4, o4, rfl, hy1, hy2, hcy⟩ := mo_cells HR4.out (trk_len b lb nb) (by omega)
  have q0 := hcx 0 (by omega)
  have q1 := hcy 0 (by omega)
  rw [trk_at a la (Nat.zero_le _), moAt_zero] at q0
  rw [trk_at b lb (Nat.zero_le _), moAt_zero] at q1
  clear hcx hcy
  simp only [Nat.add_zero] at q0 q1
  obtain ⟨ka, rfl⟩ : ∃ k : Nat, a = k := ⟨a.toNat, by omega⟩
  obtain ⟨kb, rfl⟩ : ∃ k : Nat, b = k := ⟨b.toNat, by omega⟩
  have lka : ka < 24 := by omega
  have lkb : kb < 24 := by omega
  obtain ⟨t0, o0, br, or_, cr, rfl, ht1, ht2, _, _, hcR, hrR⟩ := tab_cells HT2.out OK.out ka lka
  have hv := hrR kb lkb
  have E0 : clK T ka la kb lb 0 = (T.getD ka []).getD kb false := by simp [clK, tg]
  clear hrR
  generalize (T.getD ka []).getD kb false = v at *
  have HE0 := hide E0
  clear E0
  cases v
  case true =>
    go_wp2_with fail
    go_quiet (fail)
    go_wp2_with fail
    go_ret
    exact ⟨ret_int (fstV_at (m := 0) HE0.out (by omega) (by intro j hj; omega)).symm, HC2.out.trans (Joins.below_draws _ _ _)⟩
  go_wp2_with fail
  go_quiet (fail)
  go_wp2_with fail
  have hdr : Below w2.heap.size w2 (w2.drewN nq) := Joins.below_draws _ _ _
  have HCW := hide (HC2.out.trans (hdr.mono hz3))
  have HTW := hide (HT2.out.below hdr (by omega))
  have HR3W := hide (HR3.out.below hdr hz2)
  have HR4W := hide (HR4.out.below hdr (Nat.le_refl _))
  obtain ⟨W, hW⟩ : ∃ W, w2.drewN nq = W := ⟨_, rfl⟩
  rw [hW] at HCW HTW HR3W HR4W ⊢
  clear hW hdr HC2 HT2 HR3 HR4 q0 q1 hv hcR
  obtain ⟨M, hM⟩ : ∃ M, max na nb = M := ⟨_, rfl⟩
  have hM2 : M ≤ 4096 := by omega
  have hM1 := hide hM
  clear hM
  go_loop [9] (fun i => ∃ k : Nat, k ≤ M ∧ i = .int .i64 ((k : Int) + 1) ∧ Hid (∀ j, j ≤ k → clK T ka la kb lb j = false)) (fun i => M + 1 - (intOf i).toNat)
  case atStart => exact ⟨0, by omega, rfl, hide (by intro j hj; obtain rfl : j = 0 := (by omega); exact HE0.out)⟩
  case round =>
    obtain ⟨k, hk, rfl, HP⟩ := hrel
    by_cases hlt : k < M
    · obtain ⟨kx, ex, lx⟩ := moAt_nat la a0 a1 k
      obtain ⟨ky, ey, ly⟩ := moAt_nat lb b0 b1 k
      obtain ⟨kp, ep, lp⟩ := moAt_nat la a0 a1 (k + 1)
      obtain ⟨kq, eq, lq⟩ := moAt_nat lb b0 b1 (k + 1)
      have HEC := hide (clK_succ T ka la kb lb k)
      have HLE : Hid (k + 1 ≤ max la.length lb.length) := hide (by rw [HNA.out, HNB.out, hM1.out]; omega)
      have bx := moAt_bd la a0 a1 k
      have by_ := moAt_bd lb b0 b1 k
      have bp := moAt_bd la a0 a1 (k + 1)
      have bq := moAt_bd lb b0 b1 (k + 1)
      have BX := hide bx
      have BY := hide by_
      have BP := hide bp
      have BQ := hide bq
      clear ex ey ep eq bx by_ bp bq
      by_cases hnn : na < nb
      · have z0 : (na : Int) < (nb : Int) := by omega
        have z1 : (k : Int) < (nb : Int) := by have := hM1.out; omega
        go_wp2_with fail
        refine (at_m (some ⟨x3, o3, none⟩) na c3 _ _ ka la HNA.out (by omega) k (by omega) _ (by omega) _ HR3W.out).mono ?_
        rintro e w' ⟨rfl, hw'⟩
        obtain rfl := hw'.symm
        go_wp2_with fail
        refine (at_m (some ⟨x4, o4, none⟩) nb c4 _ _ kb lb HNB.out (by omega) k (by omega) _ (by omega) _ HR4W.out).mono ?_
        rintro e w' ⟨rfl, hw'⟩
        obtain rfl := hw'.symm
        go_wp2_with fail
        refine (at_m (some ⟨x3, o3, none⟩) na c3 _ _ ka la HNA.out (by omega) (k + 1) (by omega) _ (by omega) _ HR3W.out).mono ?_
        rintro e w' ⟨rfl, hw'⟩
        obtain rfl := hw'.symm
        go_wp2_with fail
        refine (at_m (some ⟨x4, o4, none⟩) nb c4 _ _ kb lb HNB.out (by omega) (k + 1) (by omega) _ (by omega) _ HR4W.out).mono ?_
        rintro e w' ⟨rfl, hw'⟩
        obtain rfl := hw'.symm
        go_wp2_with fail
        refine (clashesM_any _ _ _ _ _ T OK.out _ _ _ _ BX.out BY.out BP.out BQ.out _ HTW.out).mono ?_
        rintro e w' ⟨rfl, hw'⟩
        obtain rfl := hw'.symm
        rw [← HEC.out]
        cases hv2 : clK T ka la kb lb (k + 1)
        · have HV := hide hv2
          clear hv2
          go_wp2_with fail
          go_round
          case rel =>
            refine ⟨k + 1, by omega, by go_num, hide ?_⟩
            intro j hj
            by_cases hjk : j = k + 1
            · subst hjk; exact HV.out
            · exact HP.out j (by omega)
          case measure => simp [intOf]; omega
        · have HV := hide hv2
          clear hv2
          go_wp2_with fail
          go_ret
          exact ⟨ret_int (by rw [fstV_at (m := k + 1) HV.out HLE.out (fun j hj => HP.out j (by omega))]; go_num), HCW.out⟩
      · have z0 : ¬ (na : Int) < (nb : Int) := by omega
        have z1 : (k : Int) < (na : Int) := by have := hM1.out; omega
        go_wp2_with fail
        refine (at_m (some ⟨x3, o3, none⟩) na c3 _ _ ka la HNA.out (by omega) k (by omega) _ (by omega) _ HR3W.out).mono ?_
        rintro e w' ⟨rfl, hw'⟩
        obtain rfl := hw'.symm
        go_wp2_with fail
        refine (at_m (some ⟨x4, o4, none⟩) nb c4 _ _ kb lb HNB.out (by omega) k (by omega) _ (by omega) _ HR4W.out).mono ?_
        rintro e w' ⟨rfl, hw'⟩
        obtain rfl := hw'.symm
        go_wp2_with fail
        refine (at_m (some ⟨x3, o3, none⟩) na c3 _ _ ka la HNA.out (by omega) (k + 1) (by omega) _ (by omega) _ HR3W.out).mono ?_
        rintro e w' ⟨rfl, hw'⟩
        obtain rfl := hw'.symm
        go_wp2_with fail
        refine (at_m (some ⟨x4, o4, none⟩) nb c4 _ _ kb lb HNB.out (by omega) (k + 1) (by omega) _ (by omega) _ HR4W.out).mono ?_
        rintro e w' ⟨rfl, hw'⟩
        obtain rfl := hw'.symm
        go_wp2_with fail
        refine (clashesM_any _ _ _ _ _ T OK.out _ _ _ _ BX.out BY.out BP.out BQ.out _ HTW.out).mono ?_
        rintro e w' ⟨rfl, hw'⟩
        obtain rfl := hw'.symm
        rw [← HEC.out]
        cases hv2 : clK T ka la kb lb (k + 1)
        · have HV := hide hv2
          clear hv2
          go_wp2_with fail
          go_round
          case rel =>
            refine ⟨k + 1, by omega, by go_num, hide ?_⟩
            intro j hj
            by_cases hjk : j = k + 1
            · subst hjk; exact HV.out
            · exact HP.out j (by omega)
          case measure => simp [intOf]; omega
        · have HV := hide hv2
          clear hv2
          go_wp2_with fail
          go_ret
          exact ⟨ret_int (by rw [fstV_at (m := k + 1) HV.out HLE.out (fun j hj => HP.out j (by omega))]; go_num), HCW.out⟩
    · obtain rfl : k = M := by omega
      have HLE : Hid (max la.length lb.length ≤ k) := hide (by rw [HNA.out, HNB.out, hM1.out]; omega)
      have z1 : ¬ (k : Int) < (na : Int) := by have := hM1.out; omega
      have z2 : ¬ (k : Int) < (nb : Int) := by have := hM1.out; omega
      by_cases hnn : na < nb
      all_goals
        go_wp2_with fail
        go_ret
        exact ⟨ret_int (fstV_none (fun j hj => HP.out j (by have := HLE.out; omega))).symm, HCW.out⟩
end Go.Proofs.Ytoklcjpokffocaa
