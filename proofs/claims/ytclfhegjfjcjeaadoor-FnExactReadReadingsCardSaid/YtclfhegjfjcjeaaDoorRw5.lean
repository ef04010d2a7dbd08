/-
  ReadReadings, the program's. No condition but those that each theorem names.
-/
import Derived.Test.YtclfhegjfjcjeaaDoorRw4
namespace Go.Proofs.YtclfhegjfjcjeaaDoor
open Go.RowKit
set_option linter.unusedVariables false
set_option linter.unusedSimpArgs false

theorem rReading_sn5 (l : List (Int × Int)) (p : Int × Int) : rReading (l ++ [p]) = rReading l ++ [.int .i64 p.1, .int .i64 p.2] := by simp [rReading, rows, cReading]
theorem two_new5 (w : World) (x y : Value) (T : TypeId) : ∀ (j : Nat) (u : Value), [x, y][j]? = some u → (w.alloc (.cells #[x, y] T)).cell? ((⟨w.heap.size, 0, none⟩ : Addr).add j) = some u := by
  intro j u hu
  rw [Go.WideShapes.add_plain, Nat.zero_add, new_cell]
  simpa using hu
theorem strs_at5 {ws : List (List UInt8)} {k : Nat} (h : k < ws.length) : (strs ws)[k]? = some (.string (bstr (ws.getD k []))) := by simp [strs, List.getD, h]
theorem join_mem {ws : List (List UInt8)} {c b : UInt8} (h : b ∈ Lib.join ws [c]) : b = c ∨ ∃ x ∈ ws, b ∈ x := by
  cases ws with
  | nil => simp [Lib.join_nil] at h
  | cons x r =>
    rw [Lib.join_cons] at h
    rcases List.mem_append.1 h with h | h
    · exact .inr ⟨x, by simp, h⟩
    · unfold Lib.joinTail at h
      rw [List.mem_flatten] at h
      obtain ⟨z, hz, hb⟩ := h
      obtain ⟨y, hy, rfl⟩ := List.mem_map.1 hz
      rcases List.mem_append.1 hb with hb | hb
      · exact .inl (by simpa using hb)
      · exact .inr ⟨y, by simp [hy], hb⟩
theorem rdT_low {p : Int × Int} {b : UInt8} (h : b ∈ rdT p) : b.toNat < 128 := by
  unfold rdT at h
  rcases List.mem_append.1 h with h | h
  · rcases List.mem_append.1 h with h | h
    · have := itoa_mem h; omega
    · obtain rfl : b = 61 := by simpa using h
      decide
  · have := itoa_mem h; omega
theorem txt_low {t : List UInt8} {M : List (Int × Int)} (h : TxtOk t M) : ∀ b ∈ t, b.toNat < 128 := by
  intro b hb
  rw [h.2] at hb
  rcases join_mem hb with rfl | ⟨x, hx, hb⟩
  · decide
  · obtain ⟨p, _, rfl⟩ := List.mem_map.1 hx
    exact rdT_low hb
/-- The pairs so far are those of the text, if it is one. -/
def UpTo (t : List UInt8) (k : Nat) (O : List (Int × Int)) : Prop := O.length = k ∧ ∀ M, TxtOk t M → O = M.take k
/-- The word is a pair's, if the text is one. -/
theorem word_at {t : List UInt8} {ws : List (List UInt8)} (hw : ∀ M, TxtOk t M → ws = M.map rdT) {k : Nat} (hk : k < ws.length) {M : List (Int × Int)} (h : TxtOk t M) : ∃ hk2 : k < M.length, ws.getD k [] = Lib.itoa M[k].1 ++ [61] ++ Lib.itoa M[k].2 ∧ numOk (Lib.itoa M[k].1) M[k].1 ∧ numOk (Lib.itoa M[k].2) M[k].2 := by
  have e := hw M h
  have hl2 : k < M.length := by rw [e, List.length_map] at hk; omega
  obtain ⟨⟨a1, a2⟩, a3, a4⟩ := validR_at h.1 hl2
  refine ⟨hl2, ?_, ⟨by omega, by omega, rfl⟩, ⟨by omega, by omega, rfl⟩⟩
  rw [e]
  simp [List.getD, hl2, rdT]
theorem upto_no {t x y : List UInt8} {ws : List (List UInt8)} (hw : ∀ M, TxtOk t M → ws = M.map rdT) {k : Nat} (hk : k < ws.length) {a b : Int} (hc : ∀ x' y', (61 : UInt8) ∉ x' → ws.getD k [] = x' ++ [61] ++ y' → x = x' ∧ y = y') (hp : PairM x y a b false) : ∀ M, ¬ TxtOk t M := by
  intro M h
  obtain ⟨hk2, e, n1, n2⟩ := word_at hw hk h
  obtain ⟨rfl, rfl⟩ := hc _ _ (itoa_no _ _ (.inr rfl)) e
  have := (hp _ _ n1 n2).1
  cases this
theorem upto_push {t x y : List UInt8} {ws : List (List UInt8)} (hw : ∀ M, TxtOk t M → ws = M.map rdT) {k : Nat} (hk : k < ws.length) {O : List (Int × Int)} (hO : UpTo t k O) {a b : Int} (hc : ∀ x' y', (61 : UInt8) ∉ x' → ws.getD k [] = x' ++ [61] ++ y' → x = x' ∧ y = y') (hp : PairM x y a b true) : UpTo t (k + 1) (O ++ [(a, b)]) := by
  refine ⟨by simp [hO.1], fun M h => ?_⟩
  obtain ⟨hk2, e, n1, n2⟩ := word_at hw hk h
  obtain ⟨rfl, rfl⟩ := hc _ _ (itoa_no _ _ (.inr rfl)) e
  obtain ⟨_, e1, e2⟩ := hp _ _ n1 n2
  rw [hO.2 M h, List.take_succ_eq_append_getElem hk2, e1, e2]

set_option maxRecDepth 100000 in
set_option maxHeartbeats 4000000 in
theorem implRead_any (t : List UInt8) (hn : t.length ≤ 1048576) (w : World) (ht : Tb w) (he : Er w) :
    Calls Tryd.prog 5 #[.string (bstr t)] w fun e w' => RdR w w' e t := by
  obtain ⟨i0, hi0, hz0, hz1, hz2⟩ := info_parts infoReading
  have I := hide (And.intro hi0 (And.intro hz0 (And.intro hz1 hz2)))
  clear hi0 hz0 hz1 hz2
  have HTB := hide ht
  have HER := hide he
  clear ht he
  go_enter Tryd.func5, Tryd.ntmps5
  go_wp2_with fail
  refine (splitWords_any t hn w).mono ?_
  rintro e w1 ⟨v, ws, rfl, hnw, hlw, hfld, ho, hb⟩
  obtain ⟨n, hnn⟩ : ∃ n, ws.length = n := ⟨_, rfl⟩
  rw [hnn] at ho hnw
  obtain ⟨A, c, rfl, _, _, hrd⟩ := ho.rd
  have HWS : Hid (∀ M, TxtOk t M → ws = M.map rdT) := hide (fun M h => (hfld (txt_low h)).trans (txt_fld h))
  have HLW := hide hlw
  have HN := hide hnn
  have HB0 := hide hb
  have hs1 := hb.size
  have HRD0 := hide hrd
  clear hb ho hrd hfld hlw hnn
  go_wp2_with fail
  go_loopw [4, 6, 7, 8, 9, 10, 11, 15] (fun o _ _ _ _ _ _ i wr => ∃ (k : Nat) (O : List (Int × Int)), k ≤ n ∧ i = .int .i64 k ∧ Hid (UpTo t k O) ∧ Hid (wr.ownsRow w1.heap.size 33 2 o k (rReading O)) ∧ Hid (Below w1.heap.size w1 wr)) (fun _ _ _ _ _ _ _ i _ => n - (intOf i).toNat)
  case atStart => exact ⟨0, [], by omega, by first | rfl | go_num, hide ⟨rfl, fun M _ => by simp⟩, hide (World.ownsRow_nil _ _ _ _), hide (Below.refl _ _)⟩
  case round =>
    obtain ⟨k, O, hk, rfl, HU, HO, HB⟩ := hrel
    have hszr := HB.out.size
    have HBW := hide (HB0.out.trans (HB.out.mono hs1))
    by_cases hkn : k < n
    · have z1 : (k : Int) < (n : Int) := by omega
      have hkw : k < ws.length := by have := HN.out; omega
      obtain ⟨wd, hwd⟩ : ∃ wd, ws.getD k [] = wd := ⟨_, rfl⟩
      have hwl : wd.length ≤ 1048576 := by rw [← hwd]; exact HLW.out _ (by simp [List.getD, hkw])
      have HRD := hide (HRD0.out.below HB.out (Nat.le_refl _))
      obtain ⟨gb, off, rfl, _, _, hcc⟩ := HRD.out.2 (by omega)
      have ck := hcc k _ (strs_at5 (ws := ws) hkw)
      rw [hwd] at ck
      have HWD := hide hwd
      clear hcc hwd HRD
      go_wp2_with fail
      refine (cut_any wd hwl _).mono ?_
      rintro e w2 ⟨x, y, f, rfl, hx, hy, HC, q, rfl⟩
      have HB2 := hide (HB.out.trans ((Joins.below_draws wr.heap.size wr q).mono hszr))
      have HO2 : Hid ((wr.drewN q).ownsRow w1.heap.size 33 2 u4 k (rReading O)) := hide HO.out
      have hs2 : w1.heap.size ≤ (wr.drewN q).heap.size := hszr
      clear ck HO HB HBW hszr
      generalize wr.drewN q = w2 at *
      go_wp2_with fail
      obtain ⟨w3, hw3, hb3, hbox, hs3⟩ : ∃ w3, w2.alloc (.cells #[.string (bstr x), .string (bstr y)] 9) = w3 ∧ Below w2.heap.size w2 w3 ∧ Box w3 w2.heap.size [.string (bstr x), .string (bstr y)] ∧ w3.heap.size = w2.heap.size + 1 := ⟨_, rfl, below_al9 _ _, box_new _ _ _, by simp⟩
      rw [hw3]
      clear hw3
      have HB3 := hide (HB2.out.trans (hb3.mono hs2))
      have HO3 := hide ((Own.of_owns HO2.out).below hb3 (Nat.le_refl _)).1
      have HBX := hide hbox
      clear hb3 hbox HO2 HB2
      have HBW3 := hide (HB0.out.trans (HB3.out.mono hs1))
      refine (readAll_any x y (by omega) (by omega) w2.heap.size w3 (by omega) HBX.out (HTB.out.below HBW3.out (Nat.le_refl _)) (HER.out.below HBW3.out (Nat.le_refl _))).mono ?_
      rintro e w4 ⟨v, ok, a, b, rfl, HV, HPM, hb4⟩
      have HB4 := hide (HB3.out.trans (hb4.mono (by omega)))
      have HO4 := hide ((Own.of_owns HO3.out).below hb4 (Nat.le_refl _)).1
      have hlt3 := fun g hg => (HO3.out.lt g hg).2
      have HLT := hide hlt3
      have hs4 := hb4.size
      clear hb4 HO3 HB3 HBX HBW3 hlt3
      cases ok
      · have HNO := hide (upto_no HWS.out hkw (by rw [HWD.out]; exact HC.out) HPM.out)
        have HBW4 := hide (HB0.out.trans (HB4.out.mono hs1))
        go_wp2_with fail
        go_ret2
        exact rdR_no HNO.out HBW4.out
      · have HU2 := hide (upto_push HWS.out hkw HU.out (by rw [HWD.out]; exact HC.out) HPM.out)
        have hv := HV.out rfl
        obtain ⟨g, cv, rfl⟩ := Joins.ownsRow_form hv (by omega)
        have hgb := (hv.lt g rfl).1
        have hgl := (hv.lt g rfl).2
        obtain ⟨Av, c2, e, _, _, hr⟩ := (Own.of_owns hv).rd
        injection e with e1 _ e2
        subst e1
        subst e2
        obtain ⟨b2, off2, e, _, _, hcc⟩ := hr.2 (by omega)
        injection e with e
        injection e with e1 e2 _
        subst e1
        subst e2
        have d0 := hcc 0 _ (rfl : ([.int .i64 a, .int .i64 b] : List Value)[0]? = some (.int .i64 a))
        have d1 := hcc 1 _ (rfl : ([.int .i64 a, .int .i64 b] : List Value)[1]? = some (.int .i64 b))
        rw [Nat.zero_add] at d0 d1
        clear hv hr hcc HV HPM HC
        go_wp2_with fail
        refine wp_region_held_drew (S := fun W : World => W.cell? ⟨g, 0, none⟩ = some (.int .i64 a) ∧ W.cell? ⟨g, 1, none⟩ = some (.int .i64 b)) (by kernel_rfl) (⟨d0, d1⟩) (fun hHeld => ?_)
        try simp only [Array.replicate, List.replicate]
        refine wpAnyH_take (i := 0) (v := ?_) rfl (by kernel_rfl) (by kernel_rfl) (by kernel_rfl) (fun _ _ _ h => h) (Or.inl ⟨by rfl, ?_⟩) (by assumption) ?_
        rotate_left
        · (intro w hSw; (try dsimp only at hSw); go_simp; try (with_reducible rfl))
        try simp only [Act.put, List.getElem_toArray, List.getElem_cons_succ, List.getElem_cons_zero, List.setIfInBounds_toArray, List.set_cons_succ, List.set_cons_zero]
        refine wpAnyH_take (i := 1) (v := ?_) rfl (by kernel_rfl) (by kernel_rfl) (by kernel_rfl) (fun _ _ _ h => h) (Or.inl ⟨by rfl, ?_⟩) (by assumption) ?_
        rotate_left
        · (intro w hSw; (try dsimp only at hSw); go_simp; try (with_reducible rfl))
        try simp only [Act.put, List.getElem_toArray, List.getElem_cons_succ, List.getElem_cons_zero, List.setIfInBounds_toArray, List.set_cons_succ, List.set_cons_zero]
        refine wpAnyH_take (i := 2) (v := ?_) rfl (by kernel_rfl) (by kernel_rfl) (by kernel_rfl) (fun _ _ _ h => h) (Or.inl ⟨by rfl, ?_⟩) (by assumption) ?_
        rotate_left
        · (intro w hSw; (try dsimp only at hSw); go_simp; try (with_reducible rfl))
        try simp only [Act.put, List.getElem_toArray, List.getElem_cons_succ, List.getElem_cons_zero, List.setIfInBounds_toArray, List.set_cons_succ, List.set_cons_zero]
        refine wpAnyH_take (i := 3) (v := ?_) rfl (by kernel_rfl) (by kernel_rfl) (by kernel_rfl) (fun _ _ _ h => h) (Or.inl ⟨by rfl, ?_⟩) (by assumption) ?_
        rotate_left
        · (intro w hSw; (try dsimp only at hSw); go_simp; try (with_reducible rfl))
        try simp only [Act.put, List.getElem_toArray, List.getElem_cons_succ, List.getElem_cons_zero, List.setIfInBounds_toArray, List.set_cons_succ, List.set_cons_zero]
        refine wpAnyH_take (i := 4) (v := ?_) rfl (by kernel_rfl) (by kernel_rfl) (by kernel_rfl) (fun _ _ _ h => h) (Or.inl ⟨by rfl, ?_⟩) (by assumption) ?_
        rotate_left
        · (intro w hSw; (try dsimp only at hSw); go_simp; try (with_reducible rfl))
        try simp only [Act.put, List.getElem_toArray, List.getElem_cons_succ, List.getElem_cons_zero, List.setIfInBounds_toArray, List.set_cons_succ, List.set_cons_zero]
        refine wpAnyH_take (i := 5) (v := ?_) rfl (by kernel_rfl) (by kernel_rfl) (by kernel_rfl) (fun _ _ _ h => h) (Or.inl ⟨by rfl, ?_⟩) (by assumption) ?_
        rotate_left
        · (intro w hSw; (try dsimp only at hSw); go_simp; try (with_reducible rfl))
        try simp only [Act.put, List.getElem_toArray, List.getElem_cons_succ, List.getElem_cons_zero, List.setIfInBounds_toArray, List.set_cons_succ, List.set_cons_zero]
        refine wpAnyH_take (i := 6) (v := ?_) rfl (by kernel_rfl) (by kernel_rfl) (by kernel_rfl) (fun _ _ _ h => h) (Or.inl ⟨by rfl, ?_⟩) (by assumption) ?_
        rotate_left
        · (intro w hSw; (try dsimp only at hSw); go_simp; try (with_reducible rfl))
        try simp only [Act.put, List.getElem_toArray, List.getElem_cons_succ, List.getElem_cons_zero, List.setIfInBounds_toArray, List.set_cons_succ, List.set_cons_zero]
        refine wpAnyH_take (i := 7) (v := ?_) rfl (by kernel_rfl) (by kernel_rfl) (by kernel_rfl) (fun _ _ _ h => h) (Or.inl ⟨by rfl, ?_⟩) (by assumption) ?_
        rotate_left
        · (intro w hSw; (try dsimp only at hSw); go_simp; try (with_reducible rfl))
        try simp only [Act.put, List.getElem_toArray, List.getElem_cons_succ, List.getElem_cons_zero, List.setIfInBounds_toArray, List.set_cons_succ, List.set_cons_zero]
        refine wpAnyH_ready (rs := [8]) (by kernel_rfl) (by simp) ?_
        refine AllReadyH.cons rfl (fun KQ hK => ?_) AllReadyH.nil
        go_simp
        refine hK.out _ _ (⟨(World.cell?_alloc_lt w4 _ ⟨g, 0, none⟩ hgl).trans d0, (World.cell?_alloc_lt w4 _ ⟨g, 1, none⟩ hgl).trans d1⟩) (fun hHeld2 => ?_)
        clear hK KQ hHeld
        have hHeld := hHeld2
        clear hHeld2
        try simp only [Act.put, List.getElem_toArray, List.getElem_cons_succ, List.getElem_cons_zero, List.setIfInBounds_toArray, List.set_cons_succ, List.set_cons_zero]
        refine wpAnyH_ready (rs := [9]) (by kernel_rfl) (by simp) ?_
        refine AllReadyH.cons rfl (fun K hK => ?_) AllReadyH.nil
        refine step_append_own _ (by rfl) _ _ _ (by rfl) w1.heap.size 33 i0 (.agg #[.int .i64 0, .int .i64 0]) 2 16 Tryd.underlying22 I.out.1 I.out.2.1 I.out.2.2.1 I.out.2.2.2 rfl (by decide) _ k _ (by rfl) (HO4.out.alloc _) ⟨w4.heap.size, 0, none⟩ 1 1 [.int .i64 a, .int .i64 b] (by rfl) (by rfl) (two_new5 _ _ _ _) (by simp [Value.oneCell']) (by unfold maxLen; omega) (by omega) (by simp; omega) ?_
        intro v' wn hown' hgrow
        have hgs := hgrow.size
        have hbn : Below w1.heap.size w1 wn := ((HB4.out.alloc (by omega) (.cells #[.int .i64 a, .int .i64 b] 33)).drew).grown hgrow (by simp; omega) (fun g hg => (HO4.out.lt g hg).1)
        have hkp : wn.heap[g]? = w4.heap[g]? := (hgrow.block g (by simp; omega) (fun e => by have := HLT.out _ e.symm; omega)).trans (Below.block (below_al9 w4 (.cells #[.int .i64 a, .int .i64 b] 33)) g hgl)
        have en0 := (World.cell?_of_block (a := ⟨g, 0, none⟩) hkp).trans d0
        have en1 := (World.cell?_of_block (a := ⟨g, 1, none⟩) hkp).trans d1
        refine hK.out _ _ ⟨en0, en1⟩ (fun hHeld2 => ?_)
        clear hK K hHeld
        have hHeld := hHeld2
        clear hHeld2
        try simp only [Act.put, List.getElem_toArray, List.getElem_cons_succ, List.getElem_cons_zero, List.setIfInBounds_toArray, List.set_cons_succ, List.set_cons_zero]
        refine wpAnyH_take (i := 10) (v := ?_) rfl (by kernel_rfl) (by kernel_rfl) (by kernel_rfl) (fun _ _ _ h => h) (Or.inl ⟨by rfl, ?_⟩) (by assumption) ?_
        rotate_left
        · (intro w hSw; (try dsimp only at hSw); go_simp; try (with_reducible rfl))
        try simp only [Act.put, List.getElem_toArray, List.getElem_cons_succ, List.getElem_cons_zero, List.setIfInBounds_toArray, List.set_cons_succ, List.set_cons_zero]
        refine wpAnyH_done (by kernel_rfl) ?_ _
        have HO9 : Hid (wn.ownsRow w1.heap.size 33 2 v' (k + 1) (rReading (O ++ [(a, b)]))) := hide (by rw [rReading_sn5]; exact hown')
        have HB9 := hide hbn
        clear hown' hgrow hbn hkp en0 en1
        go_wp2_with fail
        go_roundw
        case rel => exact ⟨k + 1, _, by omega, by first | rfl | go_num, HU2, HO9, HB9⟩
        case measure => first | (simp [intOf]; done) | (simp [intOf]; omega)
    · have z1 : ¬ (k : Int) < (n : Int) := by omega
      have hOl := HU.out.1
      have HOL := hide hOl
      obtain ⟨Ao, co, hvo, _, _, hro⟩ := (Own.of_owns HO.out).rd
      have HRO := hide hro
      clear hro hOl
      subst hvo
      have HML : Hid (∀ M, TxtOk t M → O = M) := hide (fun M h => by
        have e := HU.out.2 M h
        have e2 := congrArg List.length (HWS.out M h)
        rw [List.length_map] at e2
        rw [e, List.take_of_length_le (by have := HN.out; omega)])
      cases hv : validR O
      · have HNO : Hid (∀ M, ¬ TxtOk t M) := hide (fun M h => by rw [HML.out M h, h.1] at hv; cases hv)
        have HV := hide hv
        go_wp2_with fail
        refine (ValidReadings_any Ao k co _ _ O (by omega) _ HOL.out HRO.out (Nat.le_refl _)).mono ?_
        rintro e w2 ⟨rfl, hb⟩
        rw [HV.out]
        have HB2 := hide (HB.out.trans (hb.mono hszr))
        have HRO2 := hide (HRO.out.below hb (Nat.le_refl _))
        have HO2 := hide ((Own.of_owns HO.out).below hb (Nat.le_refl _)).1
        have hs2 := hb.size
        have HBW2 := hide (HB0.out.trans (HB2.out.mono hs1))
        clear hb
        go_wp2_with fail
        go_ret2
        exact rdR_no HNO.out HBW2.out
      · obtain ⟨S, hS⟩ : ∃ S, rdsS O = S := ⟨_, rfl⟩
        have HS := hide hS
        have hSj : S = bstr (Lib.join (O.map rdT) [32]) := by rw [← hS]; unfold rdsS; rw [if_pos hv, rds_all]
        by_cases hc : S = bstr t
        · have HOK : Hid (TxtOk t O) := hide ⟨hv, bstr_inj (hc.symm.trans hSj)⟩
          clear hS hSj
          subst hc
          have HV := hide hv
          go_wp2_with fail
          refine (ValidReadings_any Ao k co _ _ O (by omega) _ HOL.out HRO.out (Nat.le_refl _)).mono ?_
          rintro e w2 ⟨rfl, hb⟩
          rw [HV.out]
          have HB2 := hide (HB.out.trans (hb.mono hszr))
          have HRO2 := hide (HRO.out.below hb (Nat.le_refl _))
          have HO2 := hide ((Own.of_owns HO.out).below hb (Nat.le_refl _)).1
          have hs2 := hb.size
          have HBW2 := hide (HB0.out.trans (HB2.out.mono hs1))
          clear hb
          go_wp2_with fail
          refine (implReadingsText_any Ao k co _ _ O (by omega) _ HOL.out HRO2.out (by omega) (HTB.out.below HBW2.out (Nat.le_refl _))).mono ?_
          rintro e w3 ⟨rfl, hb⟩
          rw [HS.out]
          have HO3 := hide ((Own.of_owns HO2.out).below hb (Nat.le_refl _)).1
          have HBW3 := hide (HBW2.out.trans (hb.mono (by omega)))
          clear hb
          go_wp2_with fail
          go_ret2
          refine ⟨_, true, O, rfl, ?_, HBW3.out, hide (.inl ⟨rfl, HOK.out⟩)⟩
          rw [HOL.out]
          exact (Own.of_owns HO3.out).mono hs1 (Nat.le_refl _)
        · have HNO : Hid (∀ M, ¬ TxtOk t M) := hide (fun M h => hc (by rw [hSj, HML.out M h]; exact congrArg bstr h.2.symm))
          clear hS hSj
          have hc4 : (S.toList == (bstr t).toList) = false := list_ne hc
          have HV := hide hv
          go_wp2_with fail
          refine (ValidReadings_any Ao k co _ _ O (by omega) _ HOL.out HRO.out (Nat.le_refl _)).mono ?_
          rintro e w2 ⟨rfl, hb⟩
          rw [HV.out]
          have HB2 := hide (HB.out.trans (hb.mono hszr))
          have HRO2 := hide (HRO.out.below hb (Nat.le_refl _))
          have HO2 := hide ((Own.of_owns HO.out).below hb (Nat.le_refl _)).1
          have hs2 := hb.size
          have HBW2 := hide (HB0.out.trans (HB2.out.mono hs1))
          clear hb
          go_wp2_with fail
          refine (implReadingsText_any Ao k co _ _ O (by omega) _ HOL.out HRO2.out (by omega) (HTB.out.below HBW2.out (Nat.le_refl _))).mono ?_
          rintro e w3 ⟨rfl, hb⟩
          rw [HS.out]
          have HO3 := hide ((Own.of_owns HO2.out).below hb (Nat.le_refl _)).1
          have HBW3 := hide (HBW2.out.trans (hb.mono (by omega)))
          clear hb
          go_wp2_with fail
          go_ret2
          exact rdR_no HNO.out HBW3.out

end Go.Proofs.YtclfhegjfjcjeaaDoor
