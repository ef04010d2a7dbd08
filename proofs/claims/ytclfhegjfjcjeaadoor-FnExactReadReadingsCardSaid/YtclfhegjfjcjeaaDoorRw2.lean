/-
  ReadReadings, the reference's. No condition but those that each theorem names.
-/
import Derived.Test.YtclfhegjfjcjeaaDoorRp
import Derived.Laws.AppendOwn
import Derived.Maps.AppendAt
import Derived.BigQuiet
namespace Go.Proofs.YtclfhegjfjcjeaaDoor
open Go.RowKit
set_option linter.unusedVariables false
set_option linter.unusedSimpArgs false

theorem rReading_sn (l : List (Int × Int)) (p : Int × Int) : rReading (l ++ [p]) = rReading l ++ [.int .i64 p.1, .int .i64 p.2] := by simp [rReading, rows, cReading]
theorem two_new (w : World) (x y : Value) (T : TypeId) : ∀ (j : Nat) (u : Value), [x, y][j]? = some u → (w.alloc (.cells #[x, y] T)).cell? ((⟨w.heap.size, 0, none⟩ : Addr).add j) = some u := by
  intro j u hu
  rw [Go.WideShapes.add_plain, Nat.zero_add, new_cell]
  simpa using hu
theorem strs_at {ws : List (List UInt8)} {k : Nat} (h : k < ws.length) : (strs ws)[k]? = some (.string (bstr (ws.getD k []))) := by simp [strs, List.getD, h]
theorem Rd.grown {w w' : World} {lo hi sz n : Nat} {A : Option Addr} {xs : List Value} {row : Option Nat} (h : Rd w lo hi sz A n xs) (hg : w.grownBy w' row) (hhi : hi ≤ w.heap.size) (hr : ∀ g, row = some g → g < lo ∨ hi ≤ g) : Rd w' lo hi sz A n xs :=
  h.keep fun p h1 h2 => World.cell?_of_block (hg.block p.block (by omega) (fun e => by have := hr _ e.symm; omega))
/-- Where a row may lie. -/
def At (o : Value) (g0 g1 : Nat) : Prop := ∀ g, o.ownBlock = some g → g = g0 ∨ g1 ≤ g
theorem join_min : ∀ (ws : List (List UInt8)) (c : UInt8), (∀ x ∈ ws, x ≠ []) → ws.length ≤ (Lib.join ws [c]).length := by
  intro ws c
  cases ws with
  | nil => intro _; simp
  | cons x r =>
    intro h
    have hx : 0 < x.length := List.length_pos_iff.2 (h x (by simp))
    have ht : ∀ r : List (List UInt8), r.length ≤ (Lib.joinTail [c] r).length := by
      intro r
      induction r with
      | nil => simp
      | cons y r ih => rw [show Lib.joinTail [c] (y :: r) = c :: (y ++ Lib.joinTail [c] r) by simp [Lib.joinTail]]; simp; omega
    have := ht r
    rw [Lib.join_cons]
    simp
    omega
theorem ws_len {t : List UInt8} {k : Nat} {c : UInt8} (h : k < (splitL c t).length) : ((splitL c t).getD k []).length ≤ t.length := by
  have e := join_split c t
  have hle : ∀ (ws : List (List UInt8)) (k : Nat), (ws.getD k []).length ≤ (Lib.join ws [c]).length := by
    intro ws
    cases ws with
    | nil => intro k; simp
    | cons x r =>
      have ht : ∀ (r : List (List UInt8)) (k : Nat), (r.getD k []).length ≤ (Lib.joinTail [c] r).length := by
        intro r
        induction r with
        | nil => intro k; simp
        | cons y r ih =>
          intro k
          have e2 : Lib.joinTail [c] (y :: r) = c :: (y ++ Lib.joinTail [c] r) := by simp [Lib.joinTail]
          rw [e2]
          cases k with
          | zero => simp; omega
          | succ k => have := ih k; simp at this ⊢; omega
      intro k
      rw [Lib.join_cons]
      cases k with
      | zero => simp
      | succ k => have := ht r k; simp at this ⊢; omega
  have := hle (splitL c t) k
  rwa [e] at this

set_option maxRecDepth 100000 in
set_option maxHeartbeats 2000000 in
theorem specRead_any (t : List UInt8) (tl : Nat) (hl : t.length = tl) (hn : tl ≤ 1048576) (w : World) :
    Calls Tryd.prog 4 #[.string (bstr t)] w fun e w' => RdR w w' e t := by
  by_cases h0 : t = []
  · have hE : (bstr t).toList.isEmpty = true := by rw [bstr_empty, h0]; rfl
    have HOK : Hid (TxtOk t []) := hide ⟨rfl, by rw [h0]; rfl⟩
    clear h0
    go_enter Tryd.func4, Tryd.ntmps4
    go_wp2_with fail
    go_ret2
    refine ⟨_, true, [], rfl, Own.of_owns (World.ownsRow_made (base := w.heap.size) (size := 2) w #[] 0 (Nat.le_refl _) (Nat.zero_le _) rfl), below_al9 _ _, hide (.inl ⟨rfl, HOK.out⟩)⟩
  · have hE : (bstr t).toList.isEmpty = false := by rw [bstr_empty]; cases t with | nil => exact absurd rfl h0 | cons => rfl
    obtain ⟨ws, hws⟩ : ∃ ws, splitL 32 t = ws := ⟨_, rfl⟩
    obtain ⟨n, hnn⟩ : ∃ n, ws.length = n := ⟨_, rfl⟩
    have hnb : n ≤ 1048577 := by have := split_len 32 t; rw [hws] at this; omega
    have HLEN : Hid (∀ k, k < n → (ws.getD k []).length ≤ 1048576) := hide (fun k hk => by have := ws_len (t := t) (c := 32) (k := k) (by rw [hws]; omega); rw [hws] at this; omega)
    have HSP : Hid (∀ M, TxtOk t M → ws = M.map rdT) := hide (fun M h => hws.symm.trans (txt_split h h0))
    have HJ : Hid (t = Lib.join ws [32]) := hide (by rw [← hws]; exact (join_split 32 t).symm)
    have HN := hide hnn
    have HWS := hide hws
    clear hnn hws h0
    obtain ⟨i0, hi0, hz0, hz1, hz2⟩ := info_parts infoReading
    have I := hide (And.intro hi0 (And.intro hz0 (And.intro hz1 hz2)))
    clear hi0 hz0 hz1 hz2
    go_enter Tryd.func4, Tryd.ntmps4
    go_wp2_with fail
    obtain ⟨W1, hW1, hbW, hWs⟩ : ∃ W1, w.alloc (.cells #[] 33) = W1 ∧ Below w.heap.size w W1 ∧ W1.heap.size = w.heap.size + 1 := ⟨_, rfl, below_al9 _ _, by simp⟩
    have HO0 : Hid (W1.ownsRow w.heap.size 33 2 (.slice (some ⟨w.heap.size, 0, none⟩) 0 0) 0 (rReading [])) := hide (by rw [← hW1]; exact World.ownsRow_made (base := w.heap.size) (size := 2) w #[] 0 (Nat.le_refl _) (Nat.zero_le _) rfl)
    rw [hW1]
    clear hW1
    have HBW := hide hbW
    clear hbW
    have hsw := HBW.out.size
    refine (l01Split_any t 32 tl hl (by omega) _).mono ?_
    rintro e w1 ⟨v, rfl, ho, hb⟩
    rw [HWS.out, HN.out] at ho
    obtain ⟨A, c, rfl, _, _, hrd⟩ := ho.rd
    have HO1 : Hid (w1.ownsRow w.heap.size 33 2 (.slice (some ⟨w.heap.size, 0, none⟩) 0 0) 0 (rReading [])) := hide (by have q := (Own.of_owns HO0.out).below hb (Nat.le_refl _); exact q.1)
    have HRD : Hid (Rd w1 (w.heap.size + 1) w1.heap.size 1 A n (strs ws)) := hide (by rw [← hWs]; exact hrd)
    clear hWs
    have HB1 := hide (HBW.out.trans (hb.mono hsw))
    have hs1 := hb.size
    clear hb ho hrd HO0 HBW
    go_wp2_with fail
    go_loopw [4, 6, 7, 8, 9] (fun o i _ _ _ wr => ∃ (k : Nat) (O : List (Int × Int)), k ≤ n ∧ i = .int .i64 k ∧ Hid (PrsUp ws k O) ∧ Hid (At o w.heap.size w1.heap.size) ∧ Hid (Rd wr (w.heap.size + 1) w1.heap.size 1 A n (strs ws)) ∧ w1.heap.size ≤ wr.heap.size ∧ Hid (wr.ownsRow w.heap.size 33 2 o k (rReading O)) ∧ Hid (Below w.heap.size w wr)) (fun _ i _ _ _ _ => n - (intOf i).toNat)
    case atStart => exact ⟨0, [], by omega, by first | rfl | go_num, hide (prs_nil ws), hide (fun g hg => .inl (by simp [Value.ownBlock] at hg; exact hg.symm)), HRD, Nat.le_refl _, HO1, HB1⟩
    case round =>
      clear HRD HO1 HB1
      obtain ⟨k, O, hk, rfl, HP, HAT, HRD, hsr, HO, HB⟩ := hrel
      have hszr := HB.out.size
      by_cases hkn : k < n
      · obtain ⟨wd, hwd⟩ : ∃ wd, ws.getD k [] = wd := ⟨_, rfl⟩
        have HWD := hide hwd
        clear hwd
        have hwl : wd.length ≤ 1048576 := by have := HLEN.out k hkn; rwa [HWD.out] at this
        have z1 : (k : Int) < (n : Int) := by omega
        obtain ⟨gb, off, rfl, _, hgb, hcc⟩ := HRD.out.2 (by omega)
        have ck := hcc k _ (strs_at (ws := ws) (by have := HN.out; omega))
        rw [HWD.out] at ck
        clear hcc
        go_wp2_with fail
        refine (l05Pair_any wd _ rfl hwl _).mono ?_
        rintro e w2 ⟨a, b, ok, rfl, p1, p2, hb⟩
        have hs2 := hb.size
        have HRD2 := hide (HRD.out.below hb (by omega))
        have HO2 : Hid (w2.ownsRow w.heap.size 33 2 u4 k (rReading O)) := hide ((Own.of_owns HO.out).below hb (Nat.le_refl _)).1
        have HB2 := hide (HB.out.trans (hb.mono hszr))
        clear hb ck HRD HO HB
        cases ok
        · have HNO : Hid (∀ M, ¬ TxtOk t M) := hide (fun M h => by
            have e := HSP.out M h
            have hl2 : k < M.length := by have := HN.out; rw [e, List.length_map] at this; omega
            have q := valid_pair h.1 hl2
            have e2 : rdT M[k] = wd := by rw [← HWD.out, e]; simp [List.getD, hl2]
            rw [e2] at q
            have := p2 _ _ q
            cases this)
          clear p1 p2
          go_wp2_with fail
          go_ret2
          exact rdR_no HNO.out HB2.out
        · have HP2 : Hid (PrsUp ws (k + 1) (O ++ [(a, b)])) := hide (prs_push HP.out (by have := HN.out; omega) (by rw [HWD.out]; exact p1 rfl))
          clear p1 p2
          go_wp2_with (at_builtin; refine wpList_append_own_at _ rfl (.tmp 33) (.tmp 37) 22 rfl w.heap.size 33 i0 (.agg #[.int .i64 0, .int .i64 0]) 2 16 Tryd.underlying22 I.out.1 I.out.2.1 I.out.2.2.1 I.out.2.2.2 rfl (by decide) u4 k (rReading O) rfl (HO2.out.alloc _) ⟨w2.heap.size, 0, none⟩ 1 1 [.int .i64 a, .int .i64 b] rfl rfl (two_new _ _ _ _) (by simp [Value.oneCell']) (by unfold maxLen; omega) (by omega) (by simp; omega) ?_; intro v' wn hown' hgrow _ hloc)
          have hb' : Below w.heap.size w wn := (HB2.out.alloc (by omega) _).grown hgrow (by simp; omega) (fun g hg => (HO2.out.lt g hg).1)
          have HRD9 := hide ((HRD2.out.alloc (by omega) _).grown hgrow (by simp; omega) (fun g hg => by have := HAT.out g hg; omega))
          have HAT9 : Hid (At v' w.heap.size w1.heap.size) := hide (fun g hg => by
            rcases hloc with e | e
            · exact HAT.out g (e ▸ hg)
            · rw [e] at hg; injection hg with hg; simp at hg; omega)
          have hsn : w1.heap.size ≤ wn.heap.size := by have := hgrow.size; simp at this; omega
          have HO9 : Hid (wn.ownsRow w.heap.size 33 2 v' (k + 1) (rReading (O ++ [(a, b)]))) := hide (by rw [rReading_sn]; exact hown')
          have HB9 := hide hb'
          clear hown' hgrow hb' hloc
          go_roundw
          case rel => exact ⟨k + 1, _, by omega, by first | rfl | go_num, HP2, HAT9, HRD9, hsn, HO9, HB9⟩
          case measure => first | (simp [intOf]; done) | (simp [intOf]; omega)
      · have z1 : ¬ (k : Int) < (n : Int) := by omega
        have HPF : Hid (PrsUp ws ws.length O) := hide (by have := HP.out; rwa [show k = ws.length by have := HN.out; omega] at this)
        have HWO := hide (prs_all HPF.out)
        have hOl : O.length = k := HP.out.1
        have HOL := hide hOl
        have hkb : k ≤ 1048576 := by
          have q := join_min ws 32 (fun x hx => by rw [HWO.out] at hx; obtain ⟨p, _, rfl⟩ := List.mem_map.1 hx; exact rdT_ne p)
          have := HN.out
          rw [← HJ.out] at q
          omega
        clear hOl
        obtain ⟨Ao, co, hvo, _, _, hro⟩ := (Own.of_owns HO.out).rd
        have HRO := hide hro
        clear hro
        subst hvo
        cases hv : validR O
        · have HNO : Hid (∀ M, ¬ TxtOk t M) := hide (fun M h => by
            have e := prs_one HPF.out h.1 (HSP.out M h)
            rw [e, h.1] at hv
            cases hv)
          have HV := hide hv
          clear hv
          go_wp2_with fail
          refine (l21Ok_any Ao k co _ _ O hkb _ HOL.out HRO.out (Nat.le_refl _)).mono ?_
          rintro e w2 ⟨rfl, hb⟩
          rw [HV.out]
          have HO2 : Hid (w2.ownsRow w.heap.size 33 2 (.slice Ao k co) k (rReading O)) := hide ((Own.of_owns HO.out).below hb (Nat.le_refl _)).1
          have HB2 := hide (HB.out.trans (hb.mono hszr))
          clear hb
          go_wp2_with fail
          go_ret2
          exact rdR_no HNO.out HB2.out
        · have HOK : Hid (TxtOk t O) := hide ⟨hv, by rw [← HWO.out]; exact HJ.out⟩
          have HV := hide hv
          clear hv
          go_wp2_with fail
          refine (l21Ok_any Ao k co _ _ O hkb _ HOL.out HRO.out (Nat.le_refl _)).mono ?_
          rintro e w2 ⟨rfl, hb⟩
          rw [HV.out]
          have HO2 : Hid (w2.ownsRow w.heap.size 33 2 (.slice Ao k co) k (rReading O)) := hide ((Own.of_owns HO.out).below hb (Nat.le_refl _)).1
          have HB2 := hide (HB.out.trans (hb.mono hszr))
          clear hb
          go_wp2_with fail
          go_ret2
          refine ⟨_, true, O, rfl, ?_, HB2.out, hide (.inl ⟨rfl, HOK.out⟩)⟩
          rw [HOL.out]
          exact Own.of_owns HO2.out

end Go.Proofs.YtclfhegjfjcjeaaDoor
