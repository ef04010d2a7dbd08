/-
  Several texts in one:
  TABLES as the reference draws them: the table of two cranes. What stands in it is left open, but for its form. No condition but those that each theorem names.
  DRAWINGS of the reference: places, charts, cranes. What is drawn is left open. No condition but those that each theorem names.
  DRAWINGS of the reference: two cranes, tables. What is drawn is left open. No condition but those that each theorem names.
  TABLES as the reference draws them. What stands in a table is left open, but for its form. No condition but those that each theorem names.
  WHAT THE LAWS OVER A DRAWN TABLE CALL: lengths of bytes, numbers from bytes, the table, allowed steps. No condition but those that each theorem names.
-/
import Derived.Test.YtnbahmjimnhfbaaDoorGeo4
import Derived.Test.YtnbahmjimnhfbaaDoorNext
import Derived.Test.YtnbahmjimnhfbaaDoorFamSBool
import Derived.Test.YtnbahmjimnhfbaaDoorSrch
import Derived.Test.YtnbahmjimnhfbaaDoorStp
import Derived.Test.YtnbahmjimnhfbaaDoorOpnByte
namespace Go.Proofs.YtnbahmjimnhfbaaDoor
open Go.RowKit
set_option linter.unusedVariables false
set_option linter.unusedSimpArgs false

theorem rrB_snoc (l : List (List Bool)) (r : List Bool) : rrBool (l ++ [r]) = rrBool l ++ [rBool r] := by simp [rrBool]
theorem rB_snoc (l : List Bool) (b : Bool) : rBool (l ++ [b]) = rBool l ++ [.bool b] := by simp [rBool, rows, cBool]
/-- Some table of k rows of 24. -/
def TabV (w : World) (lo hi : Nat) (v : Value) (k : Nat) : Prop := ∃ T : List (List Bool), T.length = k ∧ (∀ r ∈ T, r.length = 24) ∧ OwnSS w lo hi 33 4 v k (rrBool T)
theorem TabV.nil_ (w : World) (cs : Array Value) (hcs : cs.size = 0) (lo : Nat) (hlo : lo ≤ w.heap.size) : TabV (w.alloc (.cells cs 33)) lo (w.alloc (.cells cs 33)).heap.size (.slice (some ⟨w.heap.size, 0, none⟩) 0 0) 0 := by
  refine ⟨[], rfl, (fun r h => absurd h (by simp)), [], Own.of_owns ?_, Rows.nil _ _ _ _⟩
  obtain rfl : cs = #[] := by simpa using hcs
  exact ⟨rfl, .inr ⟨w.heap.size, 0, #[], rfl, hlo, heap_alloc_new w _, Nat.le_refl _, by unfold maxLen; omega, rfl, rfl⟩⟩
theorem TabV.snoc {wr w1 : World} {lo mid k : Nat} {v u v' : Value} {r : List Bool} {c0 : Array Value} {us : List Value} {T : List (List Bool)} (hT : T.length = k) (hTr : ∀ r ∈ T, r.length = 24) (hr : r.length = 24)
    (ho : Own wr lo wr.heap.size 33 1 v k us) (hro : Rows wr lo mid 4 us (rrBool T)) (hnew : Own wr mid wr.heap.size 4 1 u 24 (rBool r)) (hlo : lo ≤ mid) (hmid : mid ≤ wr.heap.size)
    (hg : (wr.alloc (.cells c0 33)).grownBy w1 v.ownBlock) (ho1 : w1.ownsRow lo 33 1 v' (k + 1) (us ++ [u])) : TabV w1 lo w1.heap.size v' (k + 1) := by
  refine ⟨T ++ [r], by simp [hT], fun x hx => ?_, ?_⟩
  · rcases List.mem_append.1 hx with h | h
    · exact hTr x h
    · obtain rfl : x = r := by simpa using h
      exact hr
  · rw [rrB_snoc]
    exact ss_snoc3 (r := rBool r) (by decide) ho hro (by rw [rBool_len1, hr]; exact hnew) hlo hmid hg ho1
/-- A row under construction. -/
def RowV (w : World) (lo hi : Nat) (v : Value) (j : Nat) : Prop := ∃ r : List Bool, r.length = j ∧ Own w lo hi 4 1 v j (rBool r)
theorem RowV.nil_ (w : World) (lo : Nat) (hlo : lo ≤ w.heap.size) : RowV (w.alloc (.cells #[] 4)) lo (w.alloc (.cells #[] 4)).heap.size (.slice (some ⟨w.heap.size, 0, none⟩) 0 0) 0 := by
  refine ⟨[], rfl, Own.of_owns ?_⟩
  exact ⟨rfl, .inr ⟨w.heap.size, 0, #[], rfl, hlo, heap_alloc_new w _, Nat.le_refl _, by unfold maxLen; omega, rfl, rfl⟩⟩
theorem TabV.okT {w : World} {lo hi : Nat} {v : Value} (h : TabV w lo hi v 24) : ∃ A n c T, v = .slice A n c ∧ n ≤ maxLen ∧ okT T = true ∧ RdSS w lo hi A n (rrBool T) := by
  obtain ⟨T, h1, h2, h3⟩ := h
  obtain ⟨A, c, rfl, hnc, hcm, hr⟩ := h3.rd
  exact ⟨A, 24, c, T, rfl, by omega, by unfold Go.Proofs.YtnbahmjimnhfbaaDoor.okT; simp [h1]; exact h2, hr⟩

set_option maxRecDepth 100000 in
set_option maxHeartbeats 2000000 in
theorem l15Table_g (ga gb : Nat) (dist : Int) (w : World) (hA : CrB w ga) (hB : CrB w gb) :
    Calls Tryd.prog 36 #[.pointer (some ⟨ga, 0, none⟩), .pointer (some ⟨gb, 0, none⟩), .int .i64 dist] w fun e w' => ∃ v, e = .returned v ∧ TabV w' w.heap.size w'.heap.size v 24 ∧ Below w.heap.size w w' := by
  obtain ⟨i0, hi0, hz0, hz1, hz2⟩ := info_parts infoSBool
  obtain ⟨j0, hj0, hq0, hq1, hq2⟩ := info_parts infoBool
  have I := hide (And.intro hi0 (And.intro hz0 (And.intro hz1 hz2)))
  have II := hide (And.intro hj0 (And.intro hq0 (And.intro hq1 hq2)))
  clear hi0 hz0 hz1 hz2 hj0 hq0 hq1 hq2
  have HCA := hide hA
  have HCB := hide hB
  have hga := hA.1
  have hgb := hB.1
  clear hA hB
  go_enter Tryd.func36, Tryd.ntmps36
  go_wp2_with fail
  go_loopw [7, 8] (fun v i wr => ∃ k : Nat, k ≤ 24 ∧ i = .int .i64 k ∧ Hid (TabV wr w.heap.size wr.heap.size v k) ∧ Below w.heap.size w wr) (fun _ i _ => 24 - (intOf i).toNat)
  case atStart => exact ⟨0, by omega, rfl, hide (TabV.nil_ w #[] rfl _ (Nat.le_refl _)), (Below.refl _ _).alloc (Nat.le_refl _) _⟩
  case round =>
    obtain ⟨k, hk, rfl, HW, hbr⟩ := hrel
    have hsz := hbr.size
    by_cases hlt : k < 24
    · have x1 : (k : Int) < 24 := by omega
      have x2 : decide ((k : Int) < 24) = true := by simpa using x1
      obtain ⟨wo, rfl⟩ : ∃ wo : World, wo = wr := ⟨_, rfl⟩
      go_wp2_with fail
      go_loopw [9, 10] (fun v i wr => ∃ j : Nat, j ≤ 24 ∧ i = .int .i64 j ∧ Hid (RowV wr wo.heap.size wr.heap.size v j) ∧ Below wo.heap.size wo wr) (fun _ i _ => 24 - (intOf i).toNat)
      case atStart => exact ⟨0, by omega, rfl, hide (RowV.nil_ wo _ (Nat.le_refl _)), (Below.refl _ _).alloc (Nat.le_refl _) _⟩
      case round =>
        obtain ⟨j, hj, rfl, HR, hbq⟩ := hrel
        have hsq := hbq.size
        by_cases hlj : j < 24
        · have y1 : (j : Int) < 24 := by omega
          go_wp2_with fail
          refine (l15Conflict_g ga gb k j dist (by omega) (by omega) (by omega) (by omega) _ ((HCA.out.below hbr hga).below hbq (by omega)) ((HCB.out.below hbr hgb).below hbq (by omega))).mono ?_
          rintro e w3 ⟨y, rfl, hb3⟩
          have hs3 := hb3.size
          obtain ⟨r, hr, hro⟩ := HR.out
          have HRL := hide hr
          have HRW := hide ((hro.below hb3 (Nat.le_refl _)).mono (Nat.le_refl _) hs3)
          have hb3' := hbq.trans (hb3.mono hsq)
          clear hr hro HR hb3
          go_wp2_with (at_builtin; refine wpList_append_own _ rfl (.tmp 21) (.tmp 28) 33 rfl wo.heap.size 4 j0 (.bool false) 1 1 Tryd.underlying33 II.out.1 II.out.2.1 II.out.2.2.1 II.out.2.2.2 rfl (by decide) _ _ _ rfl (HRW.out.1.alloc _) ⟨w3.heap.size, 0, none⟩ 1 1 [.bool y] rfl rfl (news_at2 _ _ _ _ rfl) (by simp [Value.oneCell']) (by unfold maxLen; omega) (by omega) (by simp; omega) ?_; intro v' wn hown' hgrow _)
          go_roundw
          case rel =>
            refine ⟨j + 1, by omega, by go_num, hide ⟨r ++ [y], by simp [HRL.out], ?_⟩, (hb3'.alloc (by omega) _).grown hgrow (by simp; omega) (fun g hg => (HRW.out.lt g hg).1)⟩
            rw [rB_snoc]
            exact Own.of_owns hown'
          case measure => simp [intOf]; omega
        · obtain rfl : j = 24 := by omega
          obtain ⟨r, hr, hnew⟩ := HR.out
          obtain ⟨gr, cr, rfl⟩ := Joins.ownsRow_form hnew.1 (by omega)
          obtain ⟨T, hT, hTr, us, ho1, hro⟩ := HW.out
          have HRL := hide hr
          have HNW := hide hnew
          have HT := hide hT
          have HTR := hide hTr
          have HOO := hide ((ho1.below hbq (Nat.le_refl _)).mono (Nat.le_refl _) hsq)
          have HRO := hide (hro.below hbq (Nat.le_refl _))
          have hbt := hbr.trans (hbq.mono hsz)
          clear ho1 hro hr hnew hT hTr HR HW
          go_wp2_with (at_builtin; refine wpList_append_own _ rfl (.tmp 30) (.tmp 32) 24 rfl w.heap.size 33 i0 (.slice none 0 0) 1 24 Tryd.underlying24 I.out.1 I.out.2.1 I.out.2.2.1 I.out.2.2.2 rfl (by decide) _ k us rfl (HOO.out.1.alloc _) ⟨wr.heap.size, 0, none⟩ 1 1 [.slice (some ⟨gr, 0, none⟩) 24 cr] rfl rfl (news_at2 _ _ _ _ rfl) (by simp [Value.oneCell']) (by unfold maxLen; omega) (by omega) (by simp; omega) ?_; intro v' wn hown' hgrow _)
          go_roundw
          case rel =>
            exact ⟨k + 1, by omega, by go_num, hide (TabV.snoc HT.out HTR.out HRL.out HOO.out HRO.out HNW.out hsz hsq hgrow hown'), (hbt.alloc (by omega) _).grown hgrow (by simp; omega) (fun g hg => (HOO.out.lt g hg).1)⟩
          case measure => simp [intOf]; omega
    · obtain rfl : k = 24 := by omega
      go_wp2_with fail
      go_ret
      exact ⟨_, rfl, HW.out, hbr⟩

open Go.RowKit
set_option linter.unusedVariables false
set_option linter.unusedSimpArgs false

theorem Tch.setNew {w w' : World} {lo hi g : Nat} (h : Tch lo hi w w') (hg : w.heap.size ≤ g) (j : Nat) (u : Value) : Tch lo hi w (w'.setCell ⟨g, j, none⟩ u) :=
  ⟨h.os, h.tape, h.output, by simpa [World.setCell] using h.size, fun k hk hb => (Below.heap_setCell _ _ _ _ (by show k ≠ g; omega)).trans (h.block k hk hb)⟩
theorem Tch.alloc_ {w w' : World} {lo hi : Nat} (h : Tch lo hi w w') (o : Obj) : Tch lo hi w (w'.alloc o) := h.trans (Tch.of_below ((Below.refl _ _).alloc (Nat.le_refl _) _) _ _)
theorem Tch.drew_ {w w' : World} {lo hi : Nat} (h : Tch lo hi w w') : Tch lo hi w w'.drew := h.trans (Tch.of_below (Joins.below_draws _ _ 1) _ _)
theorem Tch.bel {w w' w'' : World} {lo hi : Nat} (h : Tch lo hi w w') (hb : Below w'.heap.size w' w'') : Tch lo hi w w'' := h.trans (Tch.of_below hb _ _)
theorem Src.setNew {w : World} {b K g : Nat} (h : Src w b K) (hg : b < g) (j : Nat) (u : Value) : Src (w.setCell ⟨g, j, none⟩ u) b K := h.keep fun k hk => Below.heap_setCell _ _ _ _ (by show k ≠ g; omega)
theorem Src.bel {w w' : World} {b K : Nat} (h : Src w b K) (hb : Below w.heap.size w w') : Src w' b K := h.below hb h.lt
theorem Fz.tch {W W' : World} {b lo hi : Nat} (h : Fz W b) (hb : Tch lo hi W W') (hl : b < W.heap.size) (hB : b < lo ∨ hi ≤ b) : Fz W' b := fun i => (World.frozen?_of_block (hb.block b hl hB)).trans (h i)
theorem Tch.grownNew {w w' w'' : World} {lo hi : Nat} {x : Option Nat} (h : Tch lo hi w w') (hg : w'.grownBy w'' x) (hx : ∀ g, x = some g → w.heap.size ≤ g) : Tch lo hi w w'' :=
  ⟨hg.os.trans h.os, hg.tape.trans h.tape, hg.output.trans h.output, Nat.le_trans h.size hg.size, fun k hk hb => (hg.block k (Nat.lt_of_lt_of_le hk h.size) (fun e => by have := hx k e.symm; omega)).trans (h.block k hk hb)⟩
theorem l00Min_e (a b : Int) (w : World) : Calls Tryd.prog 76 #[.int .i64 a, .int .i64 b] w fun e w' => (∃ x : Int, e = .returned (.int .i64 x)) ∧ w' = w := (l00Min_g a b w).mono fun _ _ h => ⟨⟨_, h.1⟩, h.2⟩
theorem l00Max_e (a b : Int) (w : World) : Calls Tryd.prog 74 #[.int .i64 a, .int .i64 b] w fun e w' => (∃ x : Int, e = .returned (.int .i64 x)) ∧ w' = w := (l00Max_g a b w).mono fun _ _ h => ⟨⟨_, h.1⟩, h.2⟩
theorem infoCS : (Tryd.prog.info? 113).map (fun i => (i.zero, i.size, i.bytes)) = some (some (.agg #[.int .i64 0, .int .i64 0]), 2, 16) := by kernel_rfl
theorem cells2_at (w : World) (v0 v1 : Value) (T : TypeId) (b : Nat) (hb : b = w.heap.size) : ∀ (j : Nat) (u : Value), [v0, v1][j]? = some u → (w.alloc (.cells #[v0, v1] T)).cell? ((⟨b, 0, none⟩ : Addr).add j) = some u := by
  subst hb
  intro j u hu
  rw [Go.WideShapes.add_plain, Nat.zero_add, new_cell]
  simpa using hu

set_option maxRecDepth 100000 in
set_option maxHeartbeats 2000000 in
theorem l02Draw_g (b K : Nat) (hK : K ≤ 100000) (w : World) (h : Src w b K) :
    Calls Tryd.prog 62 #[.pointer (some ⟨b, 0, none⟩)] w fun e w' => ∃ x y : Int, e = .returned (.agg #[.int .i64 x, .int .i64 y]) ∧ Src w' b (K + 4) ∧ Tch b (b + 1) w w' := by
  obtain ⟨W0, hW0⟩ : ∃ W0 : World, W0 = w.alloc (.cells #[.int .i64 0, .int .i64 0] 59) := ⟨_, rfl⟩
  have hlt := h.lt
  have S0 := hide (show Src W0 b K by rw [hW0]; exact h.alloc _)
  have bR : Box W0 w.heap.size [.int .i64 0, .int .i64 0] := by rw [hW0]; exact box_at _ _ _ _ rfl
  have fR : Fz W0 w.heap.size := by rw [hW0]; exact fz_at _ _ _ _ rfl
  have T0 : Tch b (b + 1) w W0 := by rw [hW0]; exact (Tch.refl _ _ _).alloc_ _
  have hs : W0.heap.size = w.heap.size + 1 := by rw [hW0]; simp
  have HW := hide hW0
  clear hW0 h
  go_enter Tryd.func62, Tryd.ntmps62
  go_wp2_with fail
  rw [← HW.out]
  refine (pick_any b K 1201 (by omega) (by omega) (by omega) _ S0.out).mono ?_
  rintro e w1 ⟨x, rfl, x0, x1, S1, t1⟩
  have hs1 := t1.size
  have S1 := hide S1
  go_wp2_with fail
  refine (pick_any b (K + 2) 1201 (by omega) (by omega) (by omega) _ S1.out).mono ?_
  rintro e w2 ⟨y, rfl, y0, y1, S2, t2⟩
  have hs2 := t2.size
  have bE := (bR.tch t1 (by omega) (by omega)).tch t2 (by omega) (by omega)
  have fE := (fR.tch t1 (by omega) (by omega)).tch t2 (by omega) (by omega)
  have r0 := bE 0 _ rfl
  have r1 := bE 1 _ rfl
  have v0 := fE 0
  have v1 := fE 1
  have HT := hide ((T0.trans t1).trans t2)
  have S2 := hide S2
  clear bR fR T0 t1 t2 bE fE S1 S0 HW
  go_wp2_with fail
  refine bodyPost_ret (v := .agg #[.int .i64 (x - 600), .int .i64 (y - 600)]) (by simp [results, Tryd.results62, go_sem, r0, r1]) rfl ⟨_, _, rfl, ?_, ?_⟩
  · exact (S2.out.setNew hlt _ _).setNew hlt _ _
  · exact (HT.out.setNew (Nat.le_refl _) _ _).setNew (Nat.le_refl _) _ _

set_option maxRecDepth 100000 in
set_option maxHeartbeats 2000000 in
theorem l03Draw_g (b K : Nat) (most : Int) (hK : K ≤ 100000) (w : World) (h : Src w b K) :
    Calls Tryd.prog 63 #[.pointer (some ⟨b, 0, none⟩), .int .i64 most] w fun e w' => ∃ A n c, e = .returned (.slice A n c) ∧ Src w' b (K + 30) ∧ Tch b (b + 1) w w' := by
  obtain ⟨i0, hi0, hz0, hz1, hz2⟩ := info_parts infoCS
  have I := hide (And.intro hi0 (And.intro hz0 (And.intro hz1 hz2)))
  clear hi0 hz0 hz1 hz2
  obtain ⟨W0, hW0⟩ : ∃ W0 : World, W0 = w.alloc (.cells #[] 113) := ⟨_, rfl⟩
  have hlt := h.lt
  have hs0 : W0.heap.size = w.heap.size + 1 := by rw [hW0]; simp
  have S0 := hide (show Src W0 b K by rw [hW0]; exact h.alloc _)
  have O0 := hide (show Own W0 w.heap.size W0.heap.size 113 2 (.slice (some ⟨w.heap.size, 0, none⟩) 0 0) 0 [] by rw [hW0]; exact Own.of_owns ⟨rfl, .inr ⟨w.heap.size, 0, #[], rfl, Nat.le_refl _, heap_alloc_new w _, Nat.le_refl _, by unfold maxLen; omega, rfl, rfl⟩⟩)
  have T0 : Tch b (b + 1) w W0 := by rw [hW0]; exact (Tch.refl _ _ _).alloc_ _
  have HW := hide hW0
  clear hW0 h
  go_enter Tryd.func63, Tryd.ntmps63
  go_wp2_with fail
  rw [← HW.out]
  refine (pick_any b K 9000 (by omega) (by omega) (by omega) _ S0.out).mono ?_
  rintro e w1 ⟨l0, rfl, a0, a1, S1, t1⟩
  have hs1 := t1.size
  have S1 := hide S1
  go_wp2_with fail
  refine (pick_any b (K + 2) 5 (by omega) (by omega) (by omega) _ S1.out).mono ?_
  rintro e w2 ⟨k0, rfl, c0, c1, S2, t2⟩
  have hs2 := t2.size
  have S2 := hide S2
  have T2 := (T0.trans t1).trans t2
  have O2 := hide (((O0.out.tch t1 (.inr (by omega))).tch t2 (.inr (by omega))).mono (Nat.le_refl _) (Nat.le_trans hs1 hs2))
  clear t1 t2 T0 O0 S0 S1 HW
  go_wp2_with fail
  go_loopw [5, 6, 7, 8] (fun v r l k wr => ∃ (n : Nat) (xs : List Value) (r' l' k' : Int), n ≤ 5 ∧ r = .int .i64 r' ∧ l = .int .i64 l' ∧ k = .int .i64 k' ∧ k' ≤ 5 - n ∧ -1 ≤ k' ∧ Hid (Src wr b (K + 4 + 4 * n)) ∧ Hid (Own wr w.heap.size wr.heap.size 113 2 v n xs) ∧ Tch b (b + 1) w wr ∧ w.heap.size ≤ wr.heap.size) (fun _ _ _ k _ => (intOf k + 1).toNat)
  case atStart => exact ⟨0, [], 20, _, _, by omega, rfl, rfl, rfl, by omega, by omega, S2, O2, T2, by omega⟩
  case round =>
    clear S2 O2 T2
    obtain ⟨n, xs, r, l, k, hn, rfl, rfl, rfl, hk5, hk1, HS, HO, hT, hsr⟩ := hrel
    obtain ⟨A, c, rfl, _, _, _⟩ := HO.out.rd
    by_cases hk : 0 < k
    · have hk' : decide (0 < k) = true := by simpa using hk
      by_cases hr : r < most
      · have hr' : decide (r < most) = true := by simpa using hr
        go_wp2_with fail
        refine (pick_any b (K + 4 + 4 * n) 150 (by omega) (by omega) (by omega) _ HS.out).mono ?_
        rintro e w3 ⟨p, rfl, p0, p1, S3, t3⟩
        have hs3 := t3.size
        have S3 := hide S3
        have HOW := hide ((HO.out.tch t3 (.inr (by omega))).mono (Nat.le_refl _) hs3)
        have T3 := hT.trans t3
        clear HO HS hT t3
        go_wp2_with fail
        refine (l00Min_e _ _ _).mono ?_
        rintro e w' ⟨⟨mm, rfl⟩, hw⟩
        obtain rfl := hw.symm
        go_wp2_with (at_builtin; refine wpList_append_own _ rfl (.tmp 32) (.tmp 36) 60 rfl w.heap.size 113 i0 (.agg #[.int .i64 0, .int .i64 0]) 2 16 Tryd.underlying60 I.out.1 I.out.2.1 I.out.2.2.1 I.out.2.2.2 rfl (by decide) _ n xs rfl (HOW.out.1.alloc _) ⟨w3.heap.size, 0, none⟩ 1 1 [.int .i64 mm, .int .i64 l] rfl rfl (cells2_at _ _ _ _ _ rfl) (by simp [Value.oneCell']) (by unfold maxLen; omega) (by omega) (by simp; omega) ?_; intro v' w4 hown' hgrow _)
        obtain ⟨A4, c4, rfl, _, _, _⟩ := (Own.of_owns hown').rd
        have hg4 := hgrow.size
        have T4 : Tch b (b + 1) w w4 := (T3.alloc_ _).grownNew hgrow (fun g hg => (HOW.out.lt g hg).1)
        have S4 := hide ((S3.out.alloc _).keep (fun g hg => hgrow.block g (by have := S3.out.lt; simp; omega) (fun e => by have := (HOW.out.lt g e.symm).1; omega)))
        have O4 := hide (Own.of_owns hown')
        have hz4 : w.heap.size ≤ w4.heap.size := T4.size
        clear hown' hgrow hg4 T3 S3 HOW
        go_wp2_with fail
        refine (pick_any b (K + 4 + 4 * n + 2) 2500 (by omega) (by omega) (by omega) _ S4.out).mono ?_
        rintro e w5 ⟨q, rfl, q0, q1, S5, t5⟩
        have hs5 := t5.size
        have S5 := hide S5
        have O5 := hide ((O4.out.tch t5 (.inr (by omega))).mono (Nat.le_refl _) hs5)
        have T5 := T4.trans t5
        clear T4 t5 O4 S4
        go_wp2_with fail
        refine (l00Max_e _ _ _).mono ?_
        rintro e w' ⟨⟨mx', rfl⟩, hw⟩
        obtain rfl := hw.symm
        go_wp2_with fail
        go_roundw
        case rel => exact ⟨n + 1, _, _, _, k - 1, by omega, rfl, rfl, by go_num, by omega, by omega, hide (S5.out.mono (by omega)), O5, T5, by omega⟩
        case measure => first | (simp [intOf]; done) | (simp [intOf]; omega)
      · have hr' : decide (r < most) = false := by simpa using hr
        go_wp2_with fail
        go_ret
        exact ⟨⟨_, _, _, rfl⟩, HS.out.mono (by omega), hT⟩
    · have hk' : decide (0 < k) = false := by simpa using hk
      go_wp2_with fail
      go_ret
      exact ⟨⟨_, _, _, rfl⟩, HS.out.mono (by omega), hT⟩

set_option maxRecDepth 100000 in
set_option maxHeartbeats 2000000 in
theorem l04Draw_g (b K : Nat) (nm : ByteArray) (hK : K ≤ 90000) (w : World) (h : Src w b K) :
    Calls Tryd.prog 50 #[.pointer (some ⟨b, 0, none⟩), .string nm] w fun e w' => ∃ (x y hh j bb : Int) (A : Option Addr) (n c : Nat), e = .returned (.agg #[.string nm, .int .i64 x, .int .i64 y, .int .i64 hh, .int .i64 j, .int .i64 bb, .slice A n c]) ∧ Src w' b (K + 40) ∧ Tch b (b + 1) w w' := by
  have hlt := h.lt
  have HS := hide h
  have HT := hide (Tch.refl b (b + 1) w)
  clear h
  go_enter Tryd.func50, Tryd.ntmps50
  go_wp2_with fail
  obtain ⟨w_1, hW⟩ : ∃ W : World, W = w.alloc (.cells #[.string ⟨#[]⟩, .int .i64 0, .int .i64 0, .int .i64 0, .int .i64 0, .int .i64 0, .slice none 0 0] 62) := ⟨_, rfl⟩
  rw [← hW]
  have hs_w_1 : w_1.heap.size = w.heap.size + 1 := by rw [hW]; simp
  have bR : Box w_1 w.heap.size [.string ⟨#[]⟩, .int .i64 0, .int .i64 0, .int .i64 0, .int .i64 0, .int .i64 0, .slice none 0 0] := by rw [hW]; exact box_at _ _ _ _ rfl
  have fR : Fz w_1 w.heap.size := by rw [hW]; exact fz_at _ _ _ _ rfl
  replace HS := hide (show Src w_1 b K by rw [hW]; exact HS.out.alloc _)
  replace HT := hide (show Tch b (b + 1) w w_1 by rw [hW]; exact HT.out.alloc_ _)
  clear hW
  refine (l02Draw_g b K (by omega) _ HS.out).mono ?_
  rintro e w_2 ⟨x, y, rfl, S1, t1⟩
  replace HS := hide S1
  clear S1
  have hs_w_2 : w_1.heap.size ≤ w_2.heap.size := t1.size
  replace bR := bR.tch t1 (by omega) (by omega)
  replace fR := fR.tch t1 (by omega) (by omega)
  replace HT := hide (HT.out.trans t1)
  clear t1
  go_wp2_with fail
  obtain ⟨w_3, hW⟩ : ∃ W : World, W = w_2.alloc (.cells #[.string nm, .int .i64 x, .int .i64 y, .int .i64 0, .int .i64 0, .int .i64 0, .slice none 0 0] 62) := ⟨_, rfl⟩
  rw [← hW]
  have hs_w_3 : w_3.heap.size = w_2.heap.size + 1 := by rw [hW]; simp
  replace bR : Box w_3 w.heap.size [.string ⟨#[]⟩, .int .i64 0, .int .i64 0, .int .i64 0, .int .i64 0, .int .i64 0, .slice none 0 0] := by rw [hW]; exact bR.alloc (by omega) _
  replace fR : Fz w_3 w.heap.size := by rw [hW]; exact fR.alloc (by omega) _
  have bC : Box w_3 w_2.heap.size [.string nm, .int .i64 x, .int .i64 y, .int .i64 0, .int .i64 0, .int .i64 0, .slice none 0 0] := by rw [hW]; exact box_at _ _ _ _ rfl
  have fC : Fz w_3 w_2.heap.size := by rw [hW]; exact fz_at _ _ _ _ rfl
  replace HS := hide (show Src w_3 b (K + 4) by rw [hW]; exact HS.out.alloc _)
  replace HT := hide (show Tch b (b + 1) w w_3 by rw [hW]; exact HT.out.alloc_ _)
  clear hW
  refine (pick_any b (K + 4) 400 (by omega) (by omega) (by omega) _ HS.out).mono ?_
  rintro e w_4 ⟨p4, rfl, p4a, p4b, S1, t1⟩
  replace HS := hide S1
  clear S1
  have hs_w_4 : w_3.heap.size ≤ w_4.heap.size := t1.size
  replace bR := bR.tch t1 (by omega) (by omega)
  replace fR := fR.tch t1 (by omega) (by omega)
  replace bC := bC.tch t1 (by omega) (by omega)
  replace fC := fC.tch t1 (by omega) (by omega)
  replace HT := hide (HT.out.trans t1)
  clear t1
  have lC3 := bC 3 _ rfl
  have mC3 := fC 3
  go_wp2_with fail
  clear lC3 mC3
  obtain ⟨w_5, hW⟩ : ∃ W : World, W = w_4.setCell ⟨w_2.heap.size, 3, none⟩ (.int .i64 (200 + p4)) := ⟨_, rfl⟩
  rw [← hW]
  have hs_w_5 : w_5.heap.size = w_4.heap.size := by rw [hW]; simp [World.setCell]
  replace bR : Box w_5 w.heap.size [.string ⟨#[]⟩, .int .i64 0, .int .i64 0, .int .i64 0, .int .i64 0, .int .i64 0, .slice none 0 0] := by rw [hW]; exact bR.far _ _ (by show w_2.heap.size ≠ w.heap.size; omega)
  replace fR : Fz w_5 w.heap.size := by rw [hW]; exact fR.set _ _
  replace bC : Box w_5 w_2.heap.size [.string nm, .int .i64 x, .int .i64 y, .int .i64 (200 + p4), .int .i64 0, .int .i64 0, .slice none 0 0] := by rw [hW]; exact bC.put 3 _ (by simp)
  replace fC : Fz w_5 w_2.heap.size := by rw [hW]; exact fC.set _ _
  replace HS := hide (show Src w_5 b (K + 6) by rw [hW]; exact HS.out.setNew (by omega) _ _)
  replace HT := hide (show Tch b (b + 1) w w_5 by rw [hW]; exact HT.out.setNew (by omega) _ _)
  clear hW
  refine (pick_any b (K + 6) 400 (by omega) (by omega) (by omega) _ HS.out).mono ?_
  rintro e w_6 ⟨p6, rfl, p6a, p6b, S1, t1⟩
  replace HS := hide S1
  clear S1
  have hs_w_6 : w_5.heap.size ≤ w_6.heap.size := t1.size
  replace bR := bR.tch t1 (by omega) (by omega)
  replace fR := fR.tch t1 (by omega) (by omega)
  replace bC := bC.tch t1 (by omega) (by omega)
  replace fC := fC.tch t1 (by omega) (by omega)
  replace HT := hide (HT.out.trans t1)
  clear t1
  have lC4 := bC 4 _ rfl
  have mC4 := fC 4
  go_wp2_with fail
  clear lC4 mC4
  obtain ⟨w_7, hW⟩ : ∃ W : World, W = w_6.setCell ⟨w_2.heap.size, 4, none⟩ (.int .i64 (200 + p6)) := ⟨_, rfl⟩
  rw [← hW]
  have hs_w_7 : w_7.heap.size = w_6.heap.size := by rw [hW]; simp [World.setCell]
  replace bR : Box w_7 w.heap.size [.string ⟨#[]⟩, .int .i64 0, .int .i64 0, .int .i64 0, .int .i64 0, .int .i64 0, .slice none 0 0] := by rw [hW]; exact bR.far _ _ (by show w_2.heap.size ≠ w.heap.size; omega)
  replace fR : Fz w_7 w.heap.size := by rw [hW]; exact fR.set _ _
  replace bC : Box w_7 w_2.heap.size [.string nm, .int .i64 x, .int .i64 y, .int .i64 (200 + p4), .int .i64 (200 + p6), .int .i64 0, .slice none 0 0] := by rw [hW]; exact bC.put 4 _ (by simp)
  replace fC : Fz w_7 w_2.heap.size := by rw [hW]; exact fC.set _ _
  replace HS := hide (show Src w_7 b (K + 8) by rw [hW]; exact HS.out.setNew (by omega) _ _)
  replace HT := hide (show Tch b (b + 1) w w_7 by rw [hW]; exact HT.out.setNew (by omega) _ _)
  clear hW
  refine (pick_any b (K + 8) 150 (by omega) (by omega) (by omega) _ HS.out).mono ?_
  rintro e w_8 ⟨p8, rfl, p8a, p8b, S1, t1⟩
  replace HS := hide S1
  clear S1
  have hs_w_8 : w_7.heap.size ≤ w_8.heap.size := t1.size
  replace bR := bR.tch t1 (by omega) (by omega)
  replace fR := fR.tch t1 (by omega) (by omega)
  replace bC := bC.tch t1 (by omega) (by omega)
  replace fC := fC.tch t1 (by omega) (by omega)
  replace HT := hide (HT.out.trans t1)
  clear t1
  have lC5 := bC 5 _ rfl
  have lC4 := bC 4 _ rfl
  have mC5 := fC 5
  have mC4 := fC 4
  go_wp2_with fail
  clear lC5 lC4 mC5 mC4
  obtain ⟨w_9, hW⟩ : ∃ W : World, W = w_8.setCell ⟨w_2.heap.size, 5, none⟩ (.int .i64 p8) := ⟨_, rfl⟩
  rw [← hW]
  have hs_w_9 : w_9.heap.size = w_8.heap.size := by rw [hW]; simp [World.setCell]
  replace bR : Box w_9 w.heap.size [.string ⟨#[]⟩, .int .i64 0, .int .i64 0, .int .i64 0, .int .i64 0, .int .i64 0, .slice none 0 0] := by rw [hW]; exact bR.far _ _ (by show w_2.heap.size ≠ w.heap.size; omega)
  replace fR : Fz w_9 w.heap.size := by rw [hW]; exact fR.set _ _
  replace bC : Box w_9 w_2.heap.size [.string nm, .int .i64 x, .int .i64 y, .int .i64 (200 + p4), .int .i64 (200 + p6), .int .i64 p8, .slice none 0 0] := by rw [hW]; exact bC.put 5 _ (by simp)
  replace fC : Fz w_9 w_2.heap.size := by rw [hW]; exact fC.set _ _
  replace HS := hide (show Src w_9 b (K + 10) by rw [hW]; exact HS.out.setNew (by omega) _ _)
  replace HT := hide (show Tch b (b + 1) w w_9 by rw [hW]; exact HT.out.setNew (by omega) _ _)
  clear hW
  refine (l03Draw_g b (K + 10) _ (by omega) _ HS.out).mono ?_
  rintro e w_30 ⟨A, n, c, rfl, S1, t1⟩
  replace HS := hide S1
  clear S1
  have hs_w_30 : w_9.heap.size ≤ w_30.heap.size := t1.size
  replace bR := bR.tch t1 (by omega) (by omega)
  replace fR := fR.tch t1 (by omega) (by omega)
  replace bC := bC.tch t1 (by omega) (by omega)
  replace fC := fC.tch t1 (by omega) (by omega)
  replace HT := hide (HT.out.trans t1)
  clear t1
  have lC0 := bC 0 _ rfl
  have lC1 := bC 1 _ rfl
  have lC2 := bC 2 _ rfl
  have lC3 := bC 3 _ rfl
  have lC4 := bC 4 _ rfl
  have lC5 := bC 5 _ rfl
  have lC6 := bC 6 _ rfl
  have mC0 := fC 0
  have mC1 := fC 1
  have mC2 := fC 2
  have mC3 := fC 3
  have mC4 := fC 4
  have mC5 := fC 5
  have mC6 := fC 6
  have lR0 := bR 0 _ rfl
  have lR1 := bR 1 _ rfl
  have lR2 := bR 2 _ rfl
  have lR3 := bR 3 _ rfl
  have lR4 := bR 4 _ rfl
  have lR5 := bR 5 _ rfl
  have lR6 := bR 6 _ rfl
  have mR0 := fR 0
  have mR1 := fR 1
  have mR2 := fR 2
  have mR3 := fR 3
  have mR4 := fR 4
  have mR5 := fR 5
  have mR6 := fR 6
  go_wp2_with fail
  refine bodyPost_ret (v := .agg #[.string nm, .int .i64 x, .int .i64 y, .int .i64 (200 + p4), .int .i64 (200 + p6), .int .i64 p8, .slice A n c]) (by simp [results, Tryd.results50, go_sem, lR0, lR1, lR2, lR3, lR4, lR5, lR6]) rfl ⟨_, _, _, _, _, _, _, _, rfl, ?_, ?_⟩
  · exact (((((((((HS.out.setNew (by omega) _ _).setNew (by omega) _ _).setNew (by omega) _ _).setNew (by omega) _ _).setNew (by omega) _ _).setNew (by omega) _ _).setNew (by omega) _ _).setNew (by omega) _ _)).mono (by omega)
  · exact ((((((((HT.out.setNew (by omega) _ _).setNew (by omega) _ _).setNew (by omega) _ _).setNew (by omega) _ _).setNew (by omega) _ _).setNew (by omega) _ _).setNew (by omega) _ _).setNew (by omega) _ _)

open Go.RowKit
set_option linter.unusedVariables false
set_option linter.unusedSimpArgs false

theorem dcell2 (W : World) (p : Addr) : (World.drew W).cell? p = W.cell? p := rfl
theorem far_c {W : World} {g k i j : Nat} {v u : Value} (h : W.cell? ⟨k, j, none⟩ = some u) (hk : g ≠ k) : (W.setCell ⟨g, i, none⟩ v).cell? ⟨k, j, none⟩ = some u := (World.cell?_setCell_far _ _ _ _ hk).trans h

set_option maxRecDepth 100000 in
set_option maxHeartbeats 2000000 in
theorem l15Two_g (b K : Nat) (hK : K ≤ 80000) (w : World) (h : Src w b K) :
    Calls Tryd.prog 35 #[.pointer (some ⟨b, 0, none⟩)] w fun e w' => ∃ (na nb : ByteArray) (x y hh j bb : Int) (A : Option Addr) (n c : Nat) (x2 y2 hh2 j2 bb2 : Int) (A2 : Option Addr) (n2 c2 : Nat), e = .returned (.tuple #[.agg #[.string na, .int .i64 x, .int .i64 y, .int .i64 hh, .int .i64 j, .int .i64 bb, .slice A n c], .agg #[.string nb, .int .i64 x2, .int .i64 y2, .int .i64 hh2, .int .i64 j2, .int .i64 bb2, .slice A2 n2 c2]]) ∧ Src w' b (K + 100) ∧ Tch b (b + 1) w w' := by
  have hlt := h.lt
  have HS := hide h
  have HT := hide (Tch.refl b (b + 1) w)
  clear h
  obtain ⟨na, hna⟩ : ∃ z : ByteArray, z = ⟨#[97, 100, 97]⟩ := ⟨_, rfl⟩
  obtain ⟨nb, hnb⟩ : ∃ z : ByteArray, z = ⟨#[98, 111]⟩ := ⟨_, rfl⟩
  go_enter Tryd.func35, Tryd.ntmps35
  go_wp2_with fail
  try rw [← hna]
  clear hna
  obtain ⟨w_0, hW⟩ : ∃ W : World, W = (w.alloc (.cells #[.string ⟨#[]⟩, .int .i64 0, .int .i64 0, .int .i64 0, .int .i64 0, .int .i64 0, .slice none 0 0] 62)).alloc (.cells #[.string ⟨#[]⟩, .int .i64 0, .int .i64 0, .int .i64 0, .int .i64 0, .int .i64 0, .slice none 0 0] 62) := ⟨_, rfl⟩
  rw [← hW]
  have hs_0 : w_0.heap.size = w.heap.size + 2 := by rw [hW]; simp
  have bP : Box w_0 w.heap.size [.string ⟨#[]⟩, .int .i64 0, .int .i64 0, .int .i64 0, .int .i64 0, .int .i64 0, .slice none 0 0] := by rw [hW]; exact (box_at _ _ _ _ rfl).alloc (by simp) _
  have fP : Fz w_0 w.heap.size := by rw [hW]; exact (fz_at _ _ _ _ rfl).alloc (by simp) _
  have bQ : Box w_0 (w.heap.size + 1) [.string ⟨#[]⟩, .int .i64 0, .int .i64 0, .int .i64 0, .int .i64 0, .int .i64 0, .slice none 0 0] := by rw [hW]; exact box_at _ _ _ _ (by simp)
  have fQ : Fz w_0 (w.heap.size + 1) := by rw [hW]; exact fz_at _ _ _ _ (by simp)
  replace HS := hide (show Src w_0 b K by rw [hW]; exact (HS.out.alloc _).alloc _)
  replace HT := hide (show Tch b (b + 1) w w_0 by rw [hW]; exact (HT.out.alloc_ _).alloc_ _)
  clear hW
  refine (l04Draw_g b K na (by omega) _ HS.out).mono ?_
  rintro e w_1 ⟨x1, y1, h1, j1, b1, A1, n1, c1, rfl, S1, t1⟩
  replace HS := hide S1
  clear S1
  have hs_w_1 : w_0.heap.size ≤ w_1.heap.size := t1.size
  replace bP := bP.tch t1 (by omega) (by omega)
  replace fP := fP.tch t1 (by omega) (by omega)
  replace bQ := bQ.tch t1 (by omega) (by omega)
  replace fQ := fQ.tch t1 (by omega) (by omega)
  replace HT := hide (HT.out.trans t1)
  clear t1
  go_wp2_with fail
  try rw [← hnb]
  clear hnb
  obtain ⟨w_2, hW⟩ : ∃ W : World, W = w_1.alloc (.cells #[.string na, .int .i64 x1, .int .i64 y1, .int .i64 h1, .int .i64 j1, .int .i64 b1, .slice A1 n1 c1] 62) := ⟨_, rfl⟩
  rw [← hW]
  have hs_w_2 : w_2.heap.size = w_1.heap.size + 1 := by rw [hW]; simp
  replace bP : Box w_2 w.heap.size [.string ⟨#[]⟩, .int .i64 0, .int .i64 0, .int .i64 0, .int .i64 0, .int .i64 0, .slice none 0 0] := by rw [hW]; exact bP.alloc (by omega) _
  replace fP : Fz w_2 w.heap.size := by rw [hW]; exact fP.alloc (by omega) _
  replace bQ : Box w_2 (w.heap.size + 1) [.string ⟨#[]⟩, .int .i64 0, .int .i64 0, .int .i64 0, .int .i64 0, .int .i64 0, .slice none 0 0] := by rw [hW]; exact bQ.alloc (by omega) _
  replace fQ : Fz w_2 (w.heap.size + 1) := by rw [hW]; exact fQ.alloc (by omega) _
  have bA : Box w_2 w_1.heap.size [.string na, .int .i64 x1, .int .i64 y1, .int .i64 h1, .int .i64 j1, .int .i64 b1, .slice A1 n1 c1] := by rw [hW]; exact box_at _ _ _ _ rfl
  have fA : Fz w_2 w_1.heap.size := by rw [hW]; exact fz_at _ _ _ _ rfl
  replace HS := hide (show Src w_2 b (K + 40) by rw [hW]; exact HS.out.alloc _)
  replace HT := hide (show Tch b (b + 1) w w_2 by rw [hW]; exact HT.out.alloc_ _)
  clear hW
  refine (l04Draw_g b (K + 40) nb (by omega) _ HS.out).mono ?_
  rintro e w_3 ⟨x2, y2, h2, j2, b2, A2, n2, c2, rfl, S1, t1⟩
  replace HS := hide S1
  clear S1
  have hs_w_3 : w_2.heap.size ≤ w_3.heap.size := t1.size
  replace bP := bP.tch t1 (by omega) (by omega)
  replace fP := fP.tch t1 (by omega) (by omega)
  replace bQ := bQ.tch t1 (by omega) (by omega)
  replace fQ := fQ.tch t1 (by omega) (by omega)
  replace bA := bA.tch t1 (by omega) (by omega)
  replace fA := fA.tch t1 (by omega) (by omega)
  replace HT := hide (HT.out.trans t1)
  clear t1
  go_wp2_with fail
  obtain ⟨w_4, hW⟩ : ∃ W : World, W = w_3.alloc (.cells #[.string nb, .int .i64 x2, .int .i64 y2, .int .i64 h2, .int .i64 j2, .int .i64 b2, .slice A2 n2 c2] 62) := ⟨_, rfl⟩
  rw [← hW]
  have hs_w_4 : w_4.heap.size = w_3.heap.size + 1 := by rw [hW]; simp
  replace bP : Box w_4 w.heap.size [.string ⟨#[]⟩, .int .i64 0, .int .i64 0, .int .i64 0, .int .i64 0, .int .i64 0, .slice none 0 0] := by rw [hW]; exact bP.alloc (by omega) _
  replace fP : Fz w_4 w.heap.size := by rw [hW]; exact fP.alloc (by omega) _
  replace bQ : Box w_4 (w.heap.size + 1) [.string ⟨#[]⟩, .int .i64 0, .int .i64 0, .int .i64 0, .int .i64 0, .int .i64 0, .slice none 0 0] := by rw [hW]; exact bQ.alloc (by omega) _
  replace fQ : Fz w_4 (w.heap.size + 1) := by rw [hW]; exact fQ.alloc (by omega) _
  replace bA : Box w_4 w_1.heap.size [.string na, .int .i64 x1, .int .i64 y1, .int .i64 h1, .int .i64 j1, .int .i64 b1, .slice A1 n1 c1] := by rw [hW]; exact bA.alloc (by omega) _
  replace fA : Fz w_4 w_1.heap.size := by rw [hW]; exact fA.alloc (by omega) _
  have bB : Box w_4 w_3.heap.size [.string nb, .int .i64 x2, .int .i64 y2, .int .i64 h2, .int .i64 j2, .int .i64 b2, .slice A2 n2 c2] := by rw [hW]; exact box_at _ _ _ _ rfl
  have fB : Fz w_4 w_3.heap.size := by rw [hW]; exact fz_at _ _ _ _ rfl
  replace HS := hide (show Src w_4 b (K + 80) by rw [hW]; exact HS.out.alloc _)
  replace HT := hide (show Tch b (b + 1) w w_4 by rw [hW]; exact HT.out.alloc_ _)
  clear hW
  refine (pick_any b (K + 80) 100 (by omega) (by omega) (by omega) _ HS.out).mono ?_
  rintro e w_5 ⟨p5, rfl, p5a, p5b, S1, t1⟩
  replace HS := hide S1
  clear S1
  have hs_w_5 : w_4.heap.size ≤ w_5.heap.size := t1.size
  replace bP := bP.tch t1 (by omega) (by omega)
  replace fP := fP.tch t1 (by omega) (by omega)
  replace bQ := bQ.tch t1 (by omega) (by omega)
  replace fQ := fQ.tch t1 (by omega) (by omega)
  replace bA := bA.tch t1 (by omega) (by omega)
  replace fA := fA.tch t1 (by omega) (by omega)
  replace bB := bB.tch t1 (by omega) (by omega)
  replace fB := fB.tch t1 (by omega) (by omega)
  replace HT := hide (HT.out.trans t1)
  clear t1
  have lA1 := bA 1 _ rfl
  have mA1 := fA 1
  go_wp2_with fail
  clear lA1 mA1
  obtain ⟨w_6, hW⟩ : ∃ W : World, W = w_5.setCell ⟨w_1.heap.size, 1, none⟩ (.int .i64 p5) := ⟨_, rfl⟩
  rw [← hW]
  have hs_w_6 : w_6.heap.size = w_5.heap.size := by rw [hW]; simp [World.setCell]
  replace bP : Box w_6 w.heap.size [.string ⟨#[]⟩, .int .i64 0, .int .i64 0, .int .i64 0, .int .i64 0, .int .i64 0, .slice none 0 0] := by rw [hW]; exact bP.far _ _ (by show w_1.heap.size ≠ w.heap.size; omega)
  replace fP : Fz w_6 w.heap.size := by rw [hW]; exact fP.set _ _
  replace bQ : Box w_6 (w.heap.size + 1) [.string ⟨#[]⟩, .int .i64 0, .int .i64 0, .int .i64 0, .int .i64 0, .int .i64 0, .slice none 0 0] := by rw [hW]; exact bQ.far _ _ (by show w_1.heap.size ≠ (w.heap.size + 1); omega)
  replace fQ : Fz w_6 (w.heap.size + 1) := by rw [hW]; exact fQ.set _ _
  replace bA : Box w_6 w_1.heap.size [.string na, .int .i64 p5, .int .i64 y1, .int .i64 h1, .int .i64 j1, .int .i64 b1, .slice A1 n1 c1] := by rw [hW]; exact bA.put 1 _ (by simp)
  replace fA : Fz w_6 w_1.heap.size := by rw [hW]; exact fA.set _ _
  replace bB : Box w_6 w_3.heap.size [.string nb, .int .i64 x2, .int .i64 y2, .int .i64 h2, .int .i64 j2, .int .i64 b2, .slice A2 n2 c2] := by rw [hW]; exact bB.far _ _ (by show w_1.heap.size ≠ w_3.heap.size; omega)
  replace fB : Fz w_6 w_3.heap.size := by rw [hW]; exact fB.set _ _
  replace HS := hide (show Src w_6 b (K + 82) by rw [hW]; exact HS.out.setNew (by omega) _ _)
  replace HT := hide (show Tch b (b + 1) w w_6 by rw [hW]; exact HT.out.setNew (by omega) _ _)
  clear hW
  refine (pick_any b (K + 82) 100 (by omega) (by omega) (by omega) _ HS.out).mono ?_
  rintro e w_7 ⟨p7, rfl, p7a, p7b, S1, t1⟩
  replace HS := hide S1
  clear S1
  have hs_w_7 : w_6.heap.size ≤ w_7.heap.size := t1.size
  replace bP := bP.tch t1 (by omega) (by omega)
  replace fP := fP.tch t1 (by omega) (by omega)
  replace bQ := bQ.tch t1 (by omega) (by omega)
  replace fQ := fQ.tch t1 (by omega) (by omega)
  replace bA := bA.tch t1 (by omega) (by omega)
  replace fA := fA.tch t1 (by omega) (by omega)
  replace bB := bB.tch t1 (by omega) (by omega)
  replace fB := fB.tch t1 (by omega) (by omega)
  replace HT := hide (HT.out.trans t1)
  clear t1
  have lA2 := bA 2 _ rfl
  have mA2 := fA 2
  go_wp2_with fail
  clear lA2 mA2
  obtain ⟨w_8, hW⟩ : ∃ W : World, W = w_7.setCell ⟨w_1.heap.size, 2, none⟩ (.int .i64 p7) := ⟨_, rfl⟩
  rw [← hW]
  have hs_w_8 : w_8.heap.size = w_7.heap.size := by rw [hW]; simp [World.setCell]
  replace bP : Box w_8 w.heap.size [.string ⟨#[]⟩, .int .i64 0, .int .i64 0, .int .i64 0, .int .i64 0, .int .i64 0, .slice none 0 0] := by rw [hW]; exact bP.far _ _ (by show w_1.heap.size ≠ w.heap.size; omega)
  replace fP : Fz w_8 w.heap.size := by rw [hW]; exact fP.set _ _
  replace bQ : Box w_8 (w.heap.size + 1) [.string ⟨#[]⟩, .int .i64 0, .int .i64 0, .int .i64 0, .int .i64 0, .int .i64 0, .slice none 0 0] := by rw [hW]; exact bQ.far _ _ (by show w_1.heap.size ≠ (w.heap.size + 1); omega)
  replace fQ : Fz w_8 (w.heap.size + 1) := by rw [hW]; exact fQ.set _ _
  replace bA : Box w_8 w_1.heap.size [.string na, .int .i64 p5, .int .i64 p7, .int .i64 h1, .int .i64 j1, .int .i64 b1, .slice A1 n1 c1] := by rw [hW]; exact bA.put 2 _ (by simp)
  replace fA : Fz w_8 w_1.heap.size := by rw [hW]; exact fA.set _ _
  replace bB : Box w_8 w_3.heap.size [.string nb, .int .i64 x2, .int .i64 y2, .int .i64 h2, .int .i64 j2, .int .i64 b2, .slice A2 n2 c2] := by rw [hW]; exact bB.far _ _ (by show w_1.heap.size ≠ w_3.heap.size; omega)
  replace fB : Fz w_8 w_3.heap.size := by rw [hW]; exact fB.set _ _
  replace HS := hide (show Src w_8 b (K + 84) by rw [hW]; exact HS.out.setNew (by omega) _ _)
  replace HT := hide (show Tch b (b + 1) w w_8 by rw [hW]; exact HT.out.setNew (by omega) _ _)
  clear hW
  refine (pick_any b (K + 84) 24 (by omega) (by omega) (by omega) _ HS.out).mono ?_
  rintro e w_9 ⟨p9, rfl, p9a, p9b, S1, t1⟩
  replace HS := hide S1
  clear S1
  have hs_w_9 : w_8.heap.size ≤ w_9.heap.size := t1.size
  replace bP := bP.tch t1 (by omega) (by omega)
  replace fP := fP.tch t1 (by omega) (by omega)
  replace bQ := bQ.tch t1 (by omega) (by omega)
  replace fQ := fQ.tch t1 (by omega) (by omega)
  replace bA := bA.tch t1 (by omega) (by omega)
  replace fA := fA.tch t1 (by omega) (by omega)
  replace bB := bB.tch t1 (by omega) (by omega)
  replace fB := fB.tch t1 (by omega) (by omega)
  replace HT := hide (HT.out.trans t1)
  clear t1
  go_wp2_with fail
  have hdz : (World.drew w_9).heap.size = w_9.heap.size := rfl
  replace bP : Box (World.drew w_9) w.heap.size [.string ⟨#[]⟩, .int .i64 0, .int .i64 0, .int .i64 0, .int .i64 0, .int .i64 0, .slice none 0 0] := bP
  replace fP : Fz (World.drew w_9) w.heap.size := fP
  replace bQ : Box (World.drew w_9) (w.heap.size + 1) [.string ⟨#[]⟩, .int .i64 0, .int .i64 0, .int .i64 0, .int .i64 0, .int .i64 0, .slice none 0 0] := bQ
  replace fQ : Fz (World.drew w_9) (w.heap.size + 1) := fQ
  replace bA : Box (World.drew w_9) w_1.heap.size [.string na, .int .i64 p5, .int .i64 p7, .int .i64 h1, .int .i64 j1, .int .i64 b1, .slice A1 n1 c1] := bA
  replace fA : Fz (World.drew w_9) w_1.heap.size := fA
  replace bB : Box (World.drew w_9) w_3.heap.size [.string nb, .int .i64 x2, .int .i64 y2, .int .i64 h2, .int .i64 j2, .int .i64 b2, .slice A2 n2 c2] := bB
  replace fB : Fz (World.drew w_9) w_3.heap.size := fB
  replace HS := hide (show Src (World.drew w_9) b (K + 86) from HS.out.drew)
  replace HT := hide (show Tch b (b + 1) w (World.drew w_9) from HT.out.drew_)
  refine wp_region_held_drew (S := fun W => W.cell? ⟨w_1.heap.size, 1, none⟩ = some (.int .i64 p5) ∧ W.cell? ⟨w_1.heap.size, 2, none⟩ = some (.int .i64 p7)) (by kernel_rfl) (⟨bA 1 _ rfl, bA 2 _ rfl⟩) (fun hHeld => ?_)
  try simp only [Array.replicate, List.replicate]
  refine wpAnyH_take (i := 0) (v := ?_) rfl (by kernel_rfl) (by kernel_rfl) (by kernel_rfl) (fun _ _ _ h => h) (Or.inl ⟨by rfl, ?_⟩) (by assumption) ?_
  rotate_left
  · (intro w hSw; (try dsimp only at hSw); go_simp; try (with_reducible rfl))
  try simp only [Act.put, List.getElem_toArray, List.getElem_cons_succ, List.getElem_cons_zero, List.setIfInBounds_toArray, List.set_cons_succ, List.set_cons_zero]
  refine wpAnyH_take (i := 1) (v := ?_) rfl (by kernel_rfl) (by kernel_rfl) (by kernel_rfl) (fun _ _ _ h => h) (Or.inl ⟨by rfl, ?_⟩) (by assumption) ?_
  rotate_left
  · (intro w hSw; (try dsimp only at hSw); go_simp; try (with_reducible rfl))
  try simp only [Act.put, List.getElem_toArray, List.getElem_cons_succ, List.getElem_cons_zero, List.setIfInBounds_toArray, List.set_cons_succ, List.set_cons_zero]
  refine wpAnyH_take (i := 2) (v := ?_) rfl (by kernel_rfl) (by kernel_rfl) (by kernel_rfl) (fun _ _ _ h => h) (Or.inl ⟨by rfl, ?_⟩) (by assumption) ?_
  rotate_left
  · (intro w hSw; (try dsimp only at hSw); go_simp; try (with_reducible rfl))
  try simp only [Act.put, List.getElem_toArray, List.getElem_cons_succ, List.getElem_cons_zero, List.setIfInBounds_toArray, List.set_cons_succ, List.set_cons_zero]
  refine wpAnyH_take (i := 3) (v := ?_) rfl (by kernel_rfl) (by kernel_rfl) (by kernel_rfl) (fun _ _ _ h => h) (Or.inl ⟨by rfl, ?_⟩) (by assumption) ?_
  rotate_left
  · (intro w hSw; (try dsimp only at hSw); go_simp; try (with_reducible rfl))
  try simp only [Act.put, List.getElem_toArray, List.getElem_cons_succ, List.getElem_cons_zero, List.setIfInBounds_toArray, List.set_cons_succ, List.set_cons_zero]
  refine wpAnyH_ready (rs := [4]) (by kernel_rfl) (by simp) ?_
  refine AllReadyH.cons rfl (fun KQ hK => ?_) AllReadyH.nil
  go_simp
  refine (pick_any b (K + 86) 700 (by omega) (by omega) (by omega) _ HS.out).mono ?_
  rintro e w_10 ⟨p10, rfl, p10a, p10b, S1, t1⟩
  replace HS := hide S1
  clear S1
  have hs_w_10 : (World.drew w_9).heap.size ≤ w_10.heap.size := t1.size
  replace bP := bP.tch t1 (by omega) (by omega)
  replace fP := fP.tch t1 (by omega) (by omega)
  replace bQ := bQ.tch t1 (by omega) (by omega)
  replace fQ := fQ.tch t1 (by omega) (by omega)
  replace bA := bA.tch t1 (by omega) (by omega)
  replace fA := fA.tch t1 (by omega) (by omega)
  replace bB := bB.tch t1 (by omega) (by omega)
  replace fB := fB.tch t1 (by omega) (by omega)
  replace HT := hide (HT.out.trans t1)
  clear t1
  refine hK.out _ _ (⟨bA 1 _ rfl, bA 2 _ rfl⟩) (fun hHeld2 => ?_)
  clear hK KQ hHeld
  have hHeld := hHeld2
  clear hHeld2
  try simp only [Act.put, List.getElem_toArray, List.getElem_cons_succ, List.getElem_cons_zero, List.setIfInBounds_toArray, List.set_cons_succ, List.set_cons_zero]
  refine wpAnyH_take (i := 5) (v := ?_) rfl (by kernel_rfl) (by kernel_rfl) (by kernel_rfl) (fun _ _ _ h => h) (Or.inl ⟨by rfl, ?_⟩) (by assumption) ?_
  rotate_left
  · (intro w hSw; (try dsimp only at hSw); go_simp; try (with_reducible rfl))
  try simp only [Act.put, List.getElem_toArray, List.getElem_cons_succ, List.getElem_cons_zero, List.setIfInBounds_toArray, List.set_cons_succ, List.set_cons_zero]
  refine wpAnyH_ready (rs := [6]) (by kernel_rfl) (by simp) ?_
  refine AllReadyH.cons rfl (fun KQ hK => ?_) AllReadyH.nil
  go_simp
  refine (l02At_g p5 p7 p9 _ (by omega) (by omega) _).mono ?_
  rintro e w_11 ⟨px, py, rfl, hq⟩
  have t1' := Tch.of_below hq 0 0
  have t1 : Tch b (b + 1) w_10 w_11 := Tch.of_below hq _ _
  clear hq
  replace HS := hide (Src.keep HS.out (fun g hg => (Tch.block (lo := 0) (hi := 0) t1' g (by have := HS.out.lt; omega) (by omega))))
  have hs_w_11 : w_10.heap.size ≤ w_11.heap.size := t1.size
  replace bP := bP.tch t1 (by omega) (by omega)
  replace fP := fP.tch t1 (by omega) (by omega)
  replace bQ := bQ.tch t1 (by omega) (by omega)
  replace fQ := fQ.tch t1 (by omega) (by omega)
  replace bA := bA.tch t1 (by omega) (by omega)
  replace fA := fA.tch t1 (by omega) (by omega)
  replace bB := bB.tch t1 (by omega) (by omega)
  replace fB := fB.tch t1 (by omega) (by omega)
  replace HT := hide (HT.out.trans t1)
  clear t1
  have lB1 := bB 1 _ rfl
  have lB2 := bB 2 _ rfl
  have mB1 := fB 1
  have mB2 := fB 2
  refine hK.out _ _ (⟨bA 1 _ rfl, bA 2 _ rfl⟩) (fun hHeld2 => ?_)
  clear hK KQ hHeld
  have hHeld := hHeld2
  clear hHeld2
  try simp only [Act.put, List.getElem_toArray, List.getElem_cons_succ, List.getElem_cons_zero, List.setIfInBounds_toArray, List.set_cons_succ, List.set_cons_zero]
  refine wpAnyH_take (i := 7) (v := ?_) rfl (by kernel_rfl) (by kernel_rfl) (by kernel_rfl) (fun _ _ _ h => h) (Or.inl ⟨by rfl, ?_⟩) (by assumption) ?_
  rotate_left
  · (intro w hSw; (try dsimp only at hSw); go_simp; try (with_reducible rfl))
  try simp only [Act.put, List.getElem_toArray, List.getElem_cons_succ, List.getElem_cons_zero, List.setIfInBounds_toArray, List.set_cons_succ, List.set_cons_zero]
  refine wpAnyH_ready (rs := [8]) (by kernel_rfl) (by simp) ?_
  refine AllReadyH.cons rfl (fun KQ hK => ?_) AllReadyH.nil
  go_simp
  refine hK.out _ _ (⟨far_c (far_c (bA 1 _ rfl) (by omega)) (by omega), far_c (far_c (bA 2 _ rfl) (by omega)) (by omega)⟩) (fun hHeld2 => ?_)
  clear hK KQ hHeld
  have hHeld := hHeld2
  clear hHeld2
  try simp only [Act.put, List.getElem_toArray, List.getElem_cons_succ, List.getElem_cons_zero, List.setIfInBounds_toArray, List.set_cons_succ, List.set_cons_zero]
  refine wpAnyH_done (by kernel_rfl) ?_ _
  clear lB1 lB2 mB1 mB2
  clear t1'
  clear hHeld
  obtain ⟨w_12, hW⟩ : ∃ W : World, W = w_11.setCell ⟨w_3.heap.size, 1, none⟩ (.int .i64 px) := ⟨_, rfl⟩
  rw [← hW]
  have hs_w_12 : w_12.heap.size = w_11.heap.size := by rw [hW]; simp [World.setCell]
  replace bP : Box w_12 w.heap.size [.string ⟨#[]⟩, .int .i64 0, .int .i64 0, .int .i64 0, .int .i64 0, .int .i64 0, .slice none 0 0] := by rw [hW]; exact bP.far _ _ (by show w_3.heap.size ≠ w.heap.size; omega)
  replace fP : Fz w_12 w.heap.size := by rw [hW]; exact fP.set _ _
  replace bQ : Box w_12 (w.heap.size + 1) [.string ⟨#[]⟩, .int .i64 0, .int .i64 0, .int .i64 0, .int .i64 0, .int .i64 0, .slice none 0 0] := by rw [hW]; exact bQ.far _ _ (by show w_3.heap.size ≠ (w.heap.size + 1); omega)
  replace fQ : Fz w_12 (w.heap.size + 1) := by rw [hW]; exact fQ.set _ _
  replace bA : Box w_12 w_1.heap.size [.string na, .int .i64 p5, .int .i64 p7, .int .i64 h1, .int .i64 j1, .int .i64 b1, .slice A1 n1 c1] := by rw [hW]; exact bA.far _ _ (by show w_3.heap.size ≠ w_1.heap.size; omega)
  replace fA : Fz w_12 w_1.heap.size := by rw [hW]; exact fA.set _ _
  replace bB : Box w_12 w_3.heap.size [.string nb, .int .i64 px, .int .i64 y2, .int .i64 h2, .int .i64 j2, .int .i64 b2, .slice A2 n2 c2] := by rw [hW]; exact bB.put 1 _ (by simp)
  replace fB : Fz w_12 w_3.heap.size := by rw [hW]; exact fB.set _ _
  replace HS := hide (show Src w_12 b (K + 88) by rw [hW]; exact HS.out.setNew (by omega) _ _)
  replace HT := hide (show Tch b (b + 1) w w_12 by rw [hW]; exact HT.out.setNew (by omega) _ _)
  clear hW
  obtain ⟨w_13, hW⟩ : ∃ W : World, W = w_12.setCell ⟨w_3.heap.size, 2, none⟩ (.int .i64 py) := ⟨_, rfl⟩
  rw [← hW]
  have hs_w_13 : w_13.heap.size = w_12.heap.size := by rw [hW]; simp [World.setCell]
  replace bP : Box w_13 w.heap.size [.string ⟨#[]⟩, .int .i64 0, .int .i64 0, .int .i64 0, .int .i64 0, .int .i64 0, .slice none 0 0] := by rw [hW]; exact bP.far _ _ (by show w_3.heap.size ≠ w.heap.size; omega)
  replace fP : Fz w_13 w.heap.size := by rw [hW]; exact fP.set _ _
  replace bQ : Box w_13 (w.heap.size + 1) [.string ⟨#[]⟩, .int .i64 0, .int .i64 0, .int .i64 0, .int .i64 0, .int .i64 0, .slice none 0 0] := by rw [hW]; exact bQ.far _ _ (by show w_3.heap.size ≠ (w.heap.size + 1); omega)
  replace fQ : Fz w_13 (w.heap.size + 1) := by rw [hW]; exact fQ.set _ _
  replace bA : Box w_13 w_1.heap.size [.string na, .int .i64 p5, .int .i64 p7, .int .i64 h1, .int .i64 j1, .int .i64 b1, .slice A1 n1 c1] := by rw [hW]; exact bA.far _ _ (by show w_3.heap.size ≠ w_1.heap.size; omega)
  replace fA : Fz w_13 w_1.heap.size := by rw [hW]; exact fA.set _ _
  replace bB : Box w_13 w_3.heap.size [.string nb, .int .i64 px, .int .i64 py, .int .i64 h2, .int .i64 j2, .int .i64 b2, .slice A2 n2 c2] := by rw [hW]; exact bB.put 2 _ (by simp)
  replace fB : Fz w_13 w_3.heap.size := by rw [hW]; exact fB.set _ _
  replace HS := hide (show Src w_13 b (K + 88) by rw [hW]; exact HS.out.setNew (by omega) _ _)
  replace HT := hide (show Tch b (b + 1) w w_13 by rw [hW]; exact HT.out.setNew (by omega) _ _)
  clear hW
  go_wp2_with fail
  refine (one_any b (K + 88) 2 (by omega) (by omega) (by omega) _ HS.out).mono ?_
  rintro e w_14 ⟨p14, rfl, S1, t1⟩
  replace HS := hide S1
  clear S1
  have hs_w_14 : w_13.heap.size ≤ w_14.heap.size := t1.size
  replace bP := bP.tch t1 (by omega) (by omega)
  replace fP := fP.tch t1 (by omega) (by omega)
  replace bQ := bQ.tch t1 (by omega) (by omega)
  replace fQ := fQ.tch t1 (by omega) (by omega)
  replace bA := bA.tch t1 (by omega) (by omega)
  replace fA := fA.tch t1 (by omega) (by omega)
  replace bB := bB.tch t1 (by omega) (by omega)
  replace fB := fB.tch t1 (by omega) (by omega)
  replace HT := hide (HT.out.trans t1)
  clear t1
  cases p14
  · have lA0 := bA 0 _ rfl
    have lA1 := bA 1 _ rfl
    have lA2 := bA 2 _ rfl
    have lA3 := bA 3 _ rfl
    have lA4 := bA 4 _ rfl
    have lA5 := bA 5 _ rfl
    have lA6 := bA 6 _ rfl
    have lB0 := bB 0 _ rfl
    have lB1 := bB 1 _ rfl
    have lB2 := bB 2 _ rfl
    have lB3 := bB 3 _ rfl
    have lB4 := bB 4 _ rfl
    have lB5 := bB 5 _ rfl
    have lB6 := bB 6 _ rfl
    have lP0 := bP 0 _ rfl
    have lP1 := bP 1 _ rfl
    have lP2 := bP 2 _ rfl
    have lP3 := bP 3 _ rfl
    have lP4 := bP 4 _ rfl
    have lP5 := bP 5 _ rfl
    have lP6 := bP 6 _ rfl
    have mP0 := fP 0
    have mP1 := fP 1
    have mP2 := fP 2
    have mP3 := fP 3
    have mP4 := fP 4
    have mP5 := fP 5
    have mP6 := fP 6
    have lQ0 := bQ 0 _ rfl
    have lQ1 := bQ 1 _ rfl
    have lQ2 := bQ 2 _ rfl
    have lQ3 := bQ 3 _ rfl
    have lQ4 := bQ 4 _ rfl
    have lQ5 := bQ 5 _ rfl
    have lQ6 := bQ 6 _ rfl
    have mQ0 := fQ 0
    have mQ1 := fQ 1
    have mQ2 := fQ 2
    have mQ3 := fQ 3
    have mQ4 := fQ 4
    have mQ5 := fQ 5
    have mQ6 := fQ 6
    go_wp2_with fail
    go_region
    all_goals (try go_wp2_with fail)
    obtain ⟨wz, hwz⟩ : ∃ W : World, W = ((((((((((((((w_14.setCell ⟨w.heap.size, 0, none⟩ (.string na)).setCell ⟨w.heap.size, 1, none⟩ (.int .i64 p5)).setCell ⟨w.heap.size, 2, none⟩ (.int .i64 p7)).setCell ⟨w.heap.size, 3, none⟩ (.int .i64 h1)).setCell ⟨w.heap.size, 4, none⟩ (.int .i64 j1)).setCell ⟨w.heap.size, 5, none⟩ (.int .i64 b1)).setCell ⟨w.heap.size, 6, none⟩ (.slice A1 n1 c1)).setCell ⟨(w.heap.size + 1), 0, none⟩ (.string nb)).setCell ⟨(w.heap.size + 1), 1, none⟩ (.int .i64 px)).setCell ⟨(w.heap.size + 1), 2, none⟩ (.int .i64 py)).setCell ⟨(w.heap.size + 1), 3, none⟩ (.int .i64 h2)).setCell ⟨(w.heap.size + 1), 4, none⟩ (.int .i64 j2)).setCell ⟨(w.heap.size + 1), 5, none⟩ (.int .i64 b2)).setCell ⟨(w.heap.size + 1), 6, none⟩ (.slice A2 n2 c2)) := ⟨_, rfl⟩
    rw [← hwz]
    have zP : Box wz w.heap.size [.string na, .int .i64 p5, .int .i64 p7, .int .i64 h1, .int .i64 j1, .int .i64 b1, .slice A1 n1 c1] := by rw [hwz]; exact ((((((((((((((bP.put 0 _ (by simp)).put 1 _ (by simp)).put 2 _ (by simp)).put 3 _ (by simp)).put 4 _ (by simp)).put 5 _ (by simp)).put 6 _ (by simp)).far _ _ (by show (w.heap.size + 1) ≠ w.heap.size; omega)).far _ _ (by show (w.heap.size + 1) ≠ w.heap.size; omega)).far _ _ (by show (w.heap.size + 1) ≠ w.heap.size; omega)).far _ _ (by show (w.heap.size + 1) ≠ w.heap.size; omega)).far _ _ (by show (w.heap.size + 1) ≠ w.heap.size; omega)).far _ _ (by show (w.heap.size + 1) ≠ w.heap.size; omega)).far _ _ (by show (w.heap.size + 1) ≠ w.heap.size; omega))
    have zQ : Box wz (w.heap.size + 1) [.string nb, .int .i64 px, .int .i64 py, .int .i64 h2, .int .i64 j2, .int .i64 b2, .slice A2 n2 c2] := by rw [hwz]; exact ((((((((((((((bQ.far _ _ (by show w.heap.size ≠ (w.heap.size + 1); omega)).far _ _ (by show w.heap.size ≠ (w.heap.size + 1); omega)).far _ _ (by show w.heap.size ≠ (w.heap.size + 1); omega)).far _ _ (by show w.heap.size ≠ (w.heap.size + 1); omega)).far _ _ (by show w.heap.size ≠ (w.heap.size + 1); omega)).far _ _ (by show w.heap.size ≠ (w.heap.size + 1); omega)).far _ _ (by show w.heap.size ≠ (w.heap.size + 1); omega)).put 0 _ (by simp)).put 1 _ (by simp)).put 2 _ (by simp)).put 3 _ (by simp)).put 4 _ (by simp)).put 5 _ (by simp)).put 6 _ (by simp))
    have HSz := hide (show Src wz b (K + 90) by rw [hwz]; exact ((((((((((((((HS.out.setNew (by omega) _ _).setNew (by omega) _ _).setNew (by omega) _ _).setNew (by omega) _ _).setNew (by omega) _ _).setNew (by omega) _ _).setNew (by omega) _ _).setNew (by omega) _ _).setNew (by omega) _ _).setNew (by omega) _ _).setNew (by omega) _ _).setNew (by omega) _ _).setNew (by omega) _ _).setNew (by omega) _ _))
    have HTz := hide (show Tch b (b + 1) w wz by rw [hwz]; exact ((((((((((((((HT.out.setNew (by omega) _ _).setNew (by omega) _ _).setNew (by omega) _ _).setNew (by omega) _ _).setNew (by omega) _ _).setNew (by omega) _ _).setNew (by omega) _ _).setNew (by omega) _ _).setNew (by omega) _ _).setNew (by omega) _ _).setNew (by omega) _ _).setNew (by omega) _ _).setNew (by omega) _ _).setNew (by omega) _ _))
    clear hwz
    clear lA0 lA1 lA2 lA3 lA4 lA5 lA6
    clear lB0 lB1 lB2 lB3 lB4 lB5 lB6
    clear lP0 lP1 lP2 lP3 lP4 lP5 lP6 mP0 mP1 mP2 mP3 mP4 mP5 mP6
    clear lQ0 lQ1 lQ2 lQ3 lQ4 lQ5 lQ6 mQ0 mQ1 mQ2 mQ3 mQ4 mQ5 mQ6
    have zP0 := zP 0 _ rfl
    have zQ0 := zQ 0 _ rfl
    have zP1 := zP 1 _ rfl
    have zQ1 := zQ 1 _ rfl
    have zP2 := zP 2 _ rfl
    have zQ2 := zQ 2 _ rfl
    have zP3 := zP 3 _ rfl
    have zQ3 := zQ 3 _ rfl
    have zP4 := zP 4 _ rfl
    have zQ4 := zQ 4 _ rfl
    have zP5 := zP 5 _ rfl
    have zQ5 := zQ 5 _ rfl
    have zP6 := zP 6 _ rfl
    have zQ6 := zQ 6 _ rfl
    refine bodyPost_ret (v := .tuple #[.agg #[.string na, .int .i64 p5, .int .i64 p7, .int .i64 h1, .int .i64 j1, .int .i64 b1, .slice A1 n1 c1], .agg #[.string nb, .int .i64 px, .int .i64 py, .int .i64 h2, .int .i64 j2, .int .i64 b2, .slice A2 n2 c2]]) (by simp [results, Tryd.results35, go_sem, dcell2, zP0, zP1, zP2, zP3, zP4, zP5, zP6, zQ0, zQ1, zQ2, zQ3, zQ4, zQ5, zQ6]) rfl ⟨_, _, _, _, _, _, _, _, _, _, _, _, _, _, _, _, _, _, rfl, HSz.out.drew.mono (by omega), HTz.out.drew_⟩
  · go_wp2_with fail
    have hdz : (World.drew w_14).heap.size = w_14.heap.size := rfl
    replace bP : Box (World.drew w_14) w.heap.size [.string ⟨#[]⟩, .int .i64 0, .int .i64 0, .int .i64 0, .int .i64 0, .int .i64 0, .slice none 0 0] := bP
    replace fP : Fz (World.drew w_14) w.heap.size := fP
    replace bQ : Box (World.drew w_14) (w.heap.size + 1) [.string ⟨#[]⟩, .int .i64 0, .int .i64 0, .int .i64 0, .int .i64 0, .int .i64 0, .slice none 0 0] := bQ
    replace fQ : Fz (World.drew w_14) (w.heap.size + 1) := fQ
    replace bA : Box (World.drew w_14) w_1.heap.size [.string na, .int .i64 p5, .int .i64 p7, .int .i64 h1, .int .i64 j1, .int .i64 b1, .slice A1 n1 c1] := bA
    replace fA : Fz (World.drew w_14) w_1.heap.size := fA
    replace bB : Box (World.drew w_14) w_3.heap.size [.string nb, .int .i64 px, .int .i64 py, .int .i64 h2, .int .i64 j2, .int .i64 b2, .slice A2 n2 c2] := bB
    replace fB : Fz (World.drew w_14) w_3.heap.size := fB
    replace HS := hide (show Src (World.drew w_14) b (K + 90) from HS.out.drew)
    replace HT := hide (show Tch b (b + 1) w (World.drew w_14) from HT.out.drew_)
    refine wp_region_held_drew (S := fun W => W.cell? ⟨w_1.heap.size, 3, none⟩ = some (.int .i64 h1)) (by kernel_rfl) (bA 3 _ rfl) (fun hHeld => ?_)
    try simp only [Array.replicate, List.replicate]
    refine wpAnyH_take (i := 0) (v := ?_) rfl (by kernel_rfl) (by kernel_rfl) (by kernel_rfl) (fun _ _ _ h => h) (Or.inl ⟨by rfl, ?_⟩) (by assumption) ?_
    rotate_left
    · (intro w hSw; (try dsimp only at hSw); go_simp; try (with_reducible rfl))
    try simp only [Act.put, List.getElem_toArray, List.getElem_cons_succ, List.getElem_cons_zero, List.setIfInBounds_toArray, List.set_cons_succ, List.set_cons_zero]
    refine wpAnyH_take (i := 1) (v := ?_) rfl (by kernel_rfl) (by kernel_rfl) (by kernel_rfl) (fun _ _ _ h => h) (Or.inl ⟨by rfl, ?_⟩) (by assumption) ?_
    rotate_left
    · (intro w hSw; (try dsimp only at hSw); go_simp; try (with_reducible rfl))
    try simp only [Act.put, List.getElem_toArray, List.getElem_cons_succ, List.getElem_cons_zero, List.setIfInBounds_toArray, List.set_cons_succ, List.set_cons_zero]
    refine wpAnyH_take (i := 2) (v := ?_) rfl (by kernel_rfl) (by kernel_rfl) (by kernel_rfl) (fun _ _ _ h => h) (Or.inl ⟨by rfl, ?_⟩) (by assumption) ?_
    rotate_left
    · (intro w hSw; (try dsimp only at hSw); go_simp; try (with_reducible rfl))
    try simp only [Act.put, List.getElem_toArray, List.getElem_cons_succ, List.getElem_cons_zero, List.setIfInBounds_toArray, List.set_cons_succ, List.set_cons_zero]
    refine wpAnyH_ready (rs := [3]) (by kernel_rfl) (by simp) ?_
    refine AllReadyH.cons rfl (fun KQ hK => ?_) AllReadyH.nil
    go_simp
    refine (pick_any b (K + 90) 161 (by omega) (by omega) (by omega) _ HS.out).mono ?_
    rintro e w_15 ⟨p15, rfl, p15a, p15b, S1, t1⟩
    replace HS := hide S1
    clear S1
    have hs_w_15 : (World.drew w_14).heap.size ≤ w_15.heap.size := t1.size
    replace bP := bP.tch t1 (by omega) (by omega)
    replace fP := fP.tch t1 (by omega) (by omega)
    replace bQ := bQ.tch t1 (by omega) (by omega)
    replace fQ := fQ.tch t1 (by omega) (by omega)
    replace bA := bA.tch t1 (by omega) (by omega)
    replace fA := fA.tch t1 (by omega) (by omega)
    replace bB := bB.tch t1 (by omega) (by omega)
    replace fB := fB.tch t1 (by omega) (by omega)
    replace HT := hide (HT.out.trans t1)
    clear t1
    have lB3 := bB 3 _ rfl
    have mB3 := fB 3
    refine hK.out _ _ (bA 3 _ rfl) (fun hHeld2 => ?_)
    clear hK KQ hHeld
    have hHeld := hHeld2
    clear hHeld2
    try simp only [Act.put, List.getElem_toArray, List.getElem_cons_succ, List.getElem_cons_zero, List.setIfInBounds_toArray, List.set_cons_succ, List.set_cons_zero]
    refine wpAnyH_take (i := 4) (v := ?_) rfl (by kernel_rfl) (by kernel_rfl) (by kernel_rfl) (fun _ _ _ h => h) (Or.inl ⟨by rfl, ?_⟩) (by assumption) ?_
    rotate_left
    · (intro w hSw; (try dsimp only at hSw); go_simp; try (with_reducible rfl))
    try simp only [Act.put, List.getElem_toArray, List.getElem_cons_succ, List.getElem_cons_zero, List.setIfInBounds_toArray, List.set_cons_succ, List.set_cons_zero]
    refine wpAnyH_take (i := 5) (v := ?_) rfl (by kernel_rfl) (by kernel_rfl) (by kernel_rfl) (fun _ _ _ h => h) (Or.inl ⟨by rfl, ?_⟩) (by assumption) ?_
    rotate_left
    · (intro w hSw; (try dsimp only at hSw); go_simp; try (with_reducible rfl))
    try simp only [Act.put, List.getElem_toArray, List.getElem_cons_succ, List.getElem_cons_zero, List.setIfInBounds_toArray, List.set_cons_succ, List.set_cons_zero]
    refine wpAnyH_take (i := 6) (v := ?_) rfl (by kernel_rfl) (by kernel_rfl) (by kernel_rfl) (fun _ _ _ h => h) (Or.inl ⟨by rfl, ?_⟩) (by assumption) ?_
    rotate_left
    · (intro w hSw; (try dsimp only at hSw); go_simp; try (with_reducible rfl))
    try simp only [Act.put, List.getElem_toArray, List.getElem_cons_succ, List.getElem_cons_zero, List.setIfInBounds_toArray, List.set_cons_succ, List.set_cons_zero]
    refine wpAnyH_ready (rs := [7]) (by kernel_rfl) (by simp) ?_
    refine AllReadyH.cons rfl (fun KQ hK => ?_) AllReadyH.nil
    go_simp
    refine hK.out _ _ (far_c (bA 3 _ rfl) (by omega)) (fun hHeld2 => ?_)
    clear hK KQ hHeld
    have hHeld := hHeld2
    clear hHeld2
    try simp only [Act.put, List.getElem_toArray, List.getElem_cons_succ, List.getElem_cons_zero, List.setIfInBounds_toArray, List.set_cons_succ, List.set_cons_zero]
    refine wpAnyH_done (by kernel_rfl) ?_ _
    clear lB3 mB3
    clear hHeld
    obtain ⟨hz, hhz⟩ : ∃ z : Int, z = IntKind.i64.wrap (IntKind.i64.wrap (h1 + p15) - 80) := ⟨_, rfl⟩
    try rw [← hhz]
    clear hhz
    obtain ⟨w_16, hW⟩ : ∃ W : World, W = w_15.setCell ⟨w_3.heap.size, 3, none⟩ (.int .i64 hz) := ⟨_, rfl⟩
    rw [← hW]
    have hs_w_16 : w_16.heap.size = w_15.heap.size := by rw [hW]; simp [World.setCell]
    replace bP : Box w_16 w.heap.size [.string ⟨#[]⟩, .int .i64 0, .int .i64 0, .int .i64 0, .int .i64 0, .int .i64 0, .slice none 0 0] := by rw [hW]; exact bP.far _ _ (by show w_3.heap.size ≠ w.heap.size; omega)
    replace fP : Fz w_16 w.heap.size := by rw [hW]; exact fP.set _ _
    replace bQ : Box w_16 (w.heap.size + 1) [.string ⟨#[]⟩, .int .i64 0, .int .i64 0, .int .i64 0, .int .i64 0, .int .i64 0, .slice none 0 0] := by rw [hW]; exact bQ.far _ _ (by show w_3.heap.size ≠ (w.heap.size + 1); omega)
    replace fQ : Fz w_16 (w.heap.size + 1) := by rw [hW]; exact fQ.set _ _
    replace bA : Box w_16 w_1.heap.size [.string na, .int .i64 p5, .int .i64 p7, .int .i64 h1, .int .i64 j1, .int .i64 b1, .slice A1 n1 c1] := by rw [hW]; exact bA.far _ _ (by show w_3.heap.size ≠ w_1.heap.size; omega)
    replace fA : Fz w_16 w_1.heap.size := by rw [hW]; exact fA.set _ _
    replace bB : Box w_16 w_3.heap.size [.string nb, .int .i64 px, .int .i64 py, .int .i64 hz, .int .i64 j2, .int .i64 b2, .slice A2 n2 c2] := by rw [hW]; exact bB.put 3 _ (by simp)
    replace fB : Fz w_16 w_3.heap.size := by rw [hW]; exact fB.set _ _
    replace HS := hide (show Src w_16 b (K + 92) by rw [hW]; exact HS.out.setNew (by omega) _ _)
    replace HT := hide (show Tch b (b + 1) w w_16 by rw [hW]; exact HT.out.setNew (by omega) _ _)
    clear hW
    have lA0 := bA 0 _ rfl
    have lA1 := bA 1 _ rfl
    have lA2 := bA 2 _ rfl
    have lA3 := bA 3 _ rfl
    have lA4 := bA 4 _ rfl
    have lA5 := bA 5 _ rfl
    have lA6 := bA 6 _ rfl
    have lB0 := bB 0 _ rfl
    have lB1 := bB 1 _ rfl
    have lB2 := bB 2 _ rfl
    have lB3 := bB 3 _ rfl
    have lB4 := bB 4 _ rfl
    have lB5 := bB 5 _ rfl
    have lB6 := bB 6 _ rfl
    have lP0 := bP 0 _ rfl
    have lP1 := bP 1 _ rfl
    have lP2 := bP 2 _ rfl
    have lP3 := bP 3 _ rfl
    have lP4 := bP 4 _ rfl
    have lP5 := bP 5 _ rfl
    have lP6 := bP 6 _ rfl
    have mP0 := fP 0
    have mP1 := fP 1
    have mP2 := fP 2
    have mP3 := fP 3
    have mP4 := fP 4
    have mP5 := fP 5
    have mP6 := fP 6
    have lQ0 := bQ 0 _ rfl
    have lQ1 := bQ 1 _ rfl
    have lQ2 := bQ 2 _ rfl
    have lQ3 := bQ 3 _ rfl
    have lQ4 := bQ 4 _ rfl
    have lQ5 := bQ 5 _ rfl
    have lQ6 := bQ 6 _ rfl
    have mQ0 := fQ 0
    have mQ1 := fQ 1
    have mQ2 := fQ 2
    have mQ3 := fQ 3
    have mQ4 := fQ 4
    have mQ5 := fQ 5
    have mQ6 := fQ 6
    go_wp2_with fail
    go_region
    all_goals (try go_wp2_with fail)
    obtain ⟨wz, hwz⟩ : ∃ W : World, W = ((((((((((((((w_16.setCell ⟨w.heap.size, 0, none⟩ (.string na)).setCell ⟨w.heap.size, 1, none⟩ (.int .i64 p5)).setCell ⟨w.heap.size, 2, none⟩ (.int .i64 p7)).setCell ⟨w.heap.size, 3, none⟩ (.int .i64 h1)).setCell ⟨w.heap.size, 4, none⟩ (.int .i64 j1)).setCell ⟨w.heap.size, 5, none⟩ (.int .i64 b1)).setCell ⟨w.heap.size, 6, none⟩ (.slice A1 n1 c1)).setCell ⟨(w.heap.size + 1), 0, none⟩ (.string nb)).setCell ⟨(w.heap.size + 1), 1, none⟩ (.int .i64 px)).setCell ⟨(w.heap.size + 1), 2, none⟩ (.int .i64 py)).setCell ⟨(w.heap.size + 1), 3, none⟩ (.int .i64 hz)).setCell ⟨(w.heap.size + 1), 4, none⟩ (.int .i64 j2)).setCell ⟨(w.heap.size + 1), 5, none⟩ (.int .i64 b2)).setCell ⟨(w.heap.size + 1), 6, none⟩ (.slice A2 n2 c2)) := ⟨_, rfl⟩
    rw [← hwz]
    have zP : Box wz w.heap.size [.string na, .int .i64 p5, .int .i64 p7, .int .i64 h1, .int .i64 j1, .int .i64 b1, .slice A1 n1 c1] := by rw [hwz]; exact ((((((((((((((bP.put 0 _ (by simp)).put 1 _ (by simp)).put 2 _ (by simp)).put 3 _ (by simp)).put 4 _ (by simp)).put 5 _ (by simp)).put 6 _ (by simp)).far _ _ (by show (w.heap.size + 1) ≠ w.heap.size; omega)).far _ _ (by show (w.heap.size + 1) ≠ w.heap.size; omega)).far _ _ (by show (w.heap.size + 1) ≠ w.heap.size; omega)).far _ _ (by show (w.heap.size + 1) ≠ w.heap.size; omega)).far _ _ (by show (w.heap.size + 1) ≠ w.heap.size; omega)).far _ _ (by show (w.heap.size + 1) ≠ w.heap.size; omega)).far _ _ (by show (w.heap.size + 1) ≠ w.heap.size; omega))
    have zQ : Box wz (w.heap.size + 1) [.string nb, .int .i64 px, .int .i64 py, .int .i64 hz, .int .i64 j2, .int .i64 b2, .slice A2 n2 c2] := by rw [hwz]; exact ((((((((((((((bQ.far _ _ (by show w.heap.size ≠ (w.heap.size + 1); omega)).far _ _ (by show w.heap.size ≠ (w.heap.size + 1); omega)).far _ _ (by show w.heap.size ≠ (w.heap.size + 1); omega)).far _ _ (by show w.heap.size ≠ (w.heap.size + 1); omega)).far _ _ (by show w.heap.size ≠ (w.heap.size + 1); omega)).far _ _ (by show w.heap.size ≠ (w.heap.size + 1); omega)).far _ _ (by show w.heap.size ≠ (w.heap.size + 1); omega)).put 0 _ (by simp)).put 1 _ (by simp)).put 2 _ (by simp)).put 3 _ (by simp)).put 4 _ (by simp)).put 5 _ (by simp)).put 6 _ (by simp))
    have HSz := hide (show Src wz b (K + 92) by rw [hwz]; exact ((((((((((((((HS.out.setNew (by omega) _ _).setNew (by omega) _ _).setNew (by omega) _ _).setNew (by omega) _ _).setNew (by omega) _ _).setNew (by omega) _ _).setNew (by omega) _ _).setNew (by omega) _ _).setNew (by omega) _ _).setNew (by omega) _ _).setNew (by omega) _ _).setNew (by omega) _ _).setNew (by omega) _ _).setNew (by omega) _ _))
    have HTz := hide (show Tch b (b + 1) w wz by rw [hwz]; exact ((((((((((((((HT.out.setNew (by omega) _ _).setNew (by omega) _ _).setNew (by omega) _ _).setNew (by omega) _ _).setNew (by omega) _ _).setNew (by omega) _ _).setNew (by omega) _ _).setNew (by omega) _ _).setNew (by omega) _ _).setNew (by omega) _ _).setNew (by omega) _ _).setNew (by omega) _ _).setNew (by omega) _ _).setNew (by omega) _ _))
    clear hwz
    clear lA0 lA1 lA2 lA3 lA4 lA5 lA6
    clear lB0 lB1 lB2 lB3 lB4 lB5 lB6
    clear lP0 lP1 lP2 lP3 lP4 lP5 lP6 mP0 mP1 mP2 mP3 mP4 mP5 mP6
    clear lQ0 lQ1 lQ2 lQ3 lQ4 lQ5 lQ6 mQ0 mQ1 mQ2 mQ3 mQ4 mQ5 mQ6
    have zP0 := zP 0 _ rfl
    have zQ0 := zQ 0 _ rfl
    have zP1 := zP 1 _ rfl
    have zQ1 := zQ 1 _ rfl
    have zP2 := zP 2 _ rfl
    have zQ2 := zQ 2 _ rfl
    have zP3 := zP 3 _ rfl
    have zQ3 := zQ 3 _ rfl
    have zP4 := zP 4 _ rfl
    have zQ4 := zQ 4 _ rfl
    have zP5 := zP 5 _ rfl
    have zQ5 := zQ 5 _ rfl
    have zP6 := zP 6 _ rfl
    have zQ6 := zQ 6 _ rfl
    refine bodyPost_ret (v := .tuple #[.agg #[.string na, .int .i64 p5, .int .i64 p7, .int .i64 h1, .int .i64 j1, .int .i64 b1, .slice A1 n1 c1], .agg #[.string nb, .int .i64 px, .int .i64 py, .int .i64 hz, .int .i64 j2, .int .i64 b2, .slice A2 n2 c2]]) (by simp [results, Tryd.results35, go_sem, dcell2, zP0, zP1, zP2, zP3, zP4, zP5, zP6, zQ0, zQ1, zQ2, zQ3, zQ4, zQ5, zQ6]) rfl ⟨_, _, _, _, _, _, _, _, _, _, _, _, _, _, _, _, _, _, rfl, HSz.out.drew.mono (by omega), HTz.out.drew_⟩

open Go.RowKit
set_option linter.unusedVariables false
set_option linter.unusedSimpArgs false

theorem rBool_map (l : List Bool) : rBool l = l.map Value.bool := by
  unfold rBool rows cBool
  induction l with
  | nil => rfl
  | cons a l ih => simp [ih]
theorem rrB_set (T : List (List Bool)) (i j : Nat) (y : Bool) : (rrBool T).set i (((rrBool T).getD i []).set j (.bool y)) = rrBool (T.set i ((T.getD i []).set j y)) := by
  rw [rrBool_at]
  unfold rrBool
  rw [List.map_set]
  congr 1
  rw [rBool_map, rBool_map, List.map_set]
/-- A row of a table: where it lies, and a store into it. -/
theorem TabV.row {w : World} {lo hi : Nat} {v : Value} (h : TabV w lo hi v 24) (hw : hi ≤ w.heap.size) (i : Nat) (hi' : i < 24) :
    ∃ gv cv g c, v = .slice (some ⟨gv, 0, none⟩) 24 cv ∧ lo ≤ gv ∧ gv < hi ∧ lo ≤ g ∧ g < hi ∧ w.cell? ⟨gv, i, none⟩ = some (.slice (some ⟨g, 0, none⟩) 24 c) ∧ (∀ j, w.frozen? ⟨g, j, none⟩ = false) ∧
      (∀ j, j < 24 → ∃ y, w.cell? ⟨g, j, none⟩ = some (.bool y)) ∧ ∀ j y, TabV (w.setCell ⟨g, j, none⟩ (.bool y)) lo hi v 24 := by
  obtain ⟨T, h1, h2, h3⟩ := h
  have hT : i < T.length := by omega
  have e : T.getD i [] = T[i] := by simp [List.getD, hT]
  have hl : (T.getD i []).length = 24 := by rw [e]; exact h2 _ (List.getElem_mem hT)
  have hr : ((rrBool T).getD i []) = rBool (T.getD i []) := rrBool_at T i
  obtain ⟨gv, cv, g, c, e1, v1, v2, g1, g2, kc, kf, kr, krf, kput, _⟩ := h3.row_ (by decide) hw (i := i) hi' (by rw [hr, rBool_len1, hl]; omega)
  rw [hr] at kc kr
  rw [rBool_len1, hl] at kc
  refine ⟨gv, cv, g, c, e1, v1, v2, g1, g2, kc, krf, fun j hj => ?_, fun j y => ?_⟩
  · have hj' : j < (T.getD i []).length := by omega
    exact ⟨(T.getD i [])[j], kr j _ (by rw [rBool_map, List.getElem?_map, List.getElem?_eq_getElem hj']; rfl)⟩
  · refine ⟨T.set i ((T.getD i []).set j y), by simp [h1], fun r hr' => ?_, ?_⟩
    · rcases List.mem_or_eq_of_mem_set hr' with h | h
      · exact h2 r h
      · rw [h, List.length_set, hl]
    · rw [← rrB_set]; exact kput j _
theorem TabV.below {w w' : World} {lo hi k B : Nat} {v : Value} (h : TabV w lo hi v k) (hb : Below B w w') (hB : hi ≤ B) : TabV w' lo hi v k := by
  obtain ⟨T, h1, h2, h3⟩ := h; exact ⟨T, h1, h2, h3.below hb hB⟩
theorem TabV.tch {w w' : World} {lo hi k l r : Nat} {v : Value} (h : TabV w lo hi v k) (hb : Tch l r w w') (hd : hi ≤ l ∨ r ≤ lo) : TabV w' lo hi v k := by
  obtain ⟨T, h1, h2, h3⟩ := h; exact ⟨T, h1, h2, h3.tch hb hd⟩
theorem TabV.mono {w : World} {lo hi lo' hi' k : Nat} {v : Value} (h : TabV w lo hi v k) (h1 : lo' ≤ lo) (h2 : hi ≤ hi') : TabV w lo' hi' v k := by
  obtain ⟨T, k1, k2, k3⟩ := h; exact ⟨T, k1, k2, k3.mono h1 h2⟩
theorem RowV.tch {w w' : World} {lo hi k l r : Nat} {v : Value} (h : RowV w lo hi v k) (hb : Tch l r w w') (hd : hi ≤ l ∨ r ≤ lo) : RowV w' lo hi v k := by
  obtain ⟨x, h1, h2⟩ := h; exact ⟨x, h1, h2.tch hb hd⟩
theorem RowV.mono {w : World} {lo hi lo' hi' k : Nat} {v : Value} (h : RowV w lo hi v k) (h1 : lo' ≤ lo) (h2 : hi ≤ hi') : RowV w lo' hi' v k := by
  obtain ⟨x, k1, k2⟩ := h; exact ⟨x, k1, k2.mono h1 h2⟩

set_option maxRecDepth 100000 in
set_option maxHeartbeats 2000000 in
theorem l15Draw_g (b K : Nat) (hK : K ≤ 70000) (w : World) (h : Src w b K) :
    Calls Tryd.prog 17 #[.pointer (some ⟨b, 0, none⟩)] w fun e w' => ∃ v, e = .returned v ∧ TabV w' w.heap.size w'.heap.size v 24 ∧ Src w' b (K + 1400) ∧ Tch b (b + 1) w w' := by
  obtain ⟨i0, hi0, hz0, hz1, hz2⟩ := info_parts infoSBool
  obtain ⟨j0, hj0, hq0, hq1, hq2⟩ := info_parts infoBool
  have I := hide (And.intro hi0 (And.intro hz0 (And.intro hz1 hz2)))
  have II := hide (And.intro hj0 (And.intro hq0 (And.intro hq1 hq2)))
  clear hi0 hz0 hz1 hz2 hj0 hq0 hq1 hq2
  have hlt := h.lt
  have HS := hide h
  clear h
  go_enter Tryd.func17, Tryd.ntmps17
  go_wp2_with fail
  refine (one_any b K 2 (by omega) (by omega) (by omega) _ HS.out).mono ?_
  rintro e w1 ⟨y1, rfl, S1, t1⟩
  have hs1 := t1.size
  have HS1 := hide S1
  clear S1 HS
  cases y1
  · go_wp2_with fail
    obtain ⟨W2, hW2⟩ : ∃ W : World, W = w1.alloc (.cells #[] 33) := ⟨_, rfl⟩
    rw [← hW2]
    have hs2 : W2.heap.size = w1.heap.size + 1 := by rw [hW2]; simp
    have TA2 := hide (show TabV W2 w.heap.size W2.heap.size (.slice (some ⟨w1.heap.size, 0, none⟩) 0 0) 0 by rw [hW2]; exact (TabV.nil_ w1 #[] rfl _ (Nat.le_refl _)).mono hs1 (Nat.le_refl _))
    have HS2 := hide (show Src W2 b (K + 2) by rw [hW2]; exact HS1.out.alloc _)
    have HT2 := hide (show Tch b (b + 1) w W2 by rw [hW2]; exact t1.alloc_ _)
    clear hW2 HS1 t1
    refine (pick_any b (K + 2) 12 (by omega) (by omega) (by omega) _ HS2.out).mono ?_
    rintro e w4 ⟨mn, rfl, mna, mnb, S4, t4⟩
    have hs4 := t4.size
    have HS4 := hide S4
    have TA4 := hide ((TA2.out.tch t4 (.inr (by omega))).mono (Nat.le_refl _) hs4)
    have HT4 := hide (HT2.out.trans t4)
    clear S4 t4 HS2 TA2 HT2
    go_wp2_with fail
    have hmw : IntKind.i64.wrap (2 + mn) = 2 + mn := IntWalk.i64_in _ (by omega)
    try rw [hmw]
    clear hmw
    obtain ⟨mm, hmm⟩ : ∃ z : Int, z = 2 + mn := ⟨_, rfl⟩
    try rw [← hmm]
    have hm1 : 2 ≤ mm := by omega
    have hm2 : mm ≤ 13 := by omega
    clear hmm
    go_loopw [5, 7] (fun v i wr => ∃ k : Nat, k ≤ 24 ∧ i = .int .i64 k ∧ Hid (TabV wr w.heap.size wr.heap.size v k) ∧ Hid (Src wr b (K + 4 + 48 * k)) ∧ Tch b (b + 1) w wr) (fun _ i _ => 24 - (intOf i).toNat)
    case atStart => exact ⟨0, by omega, rfl, TA4, HS4, HT4.out⟩
    case round =>
      clear TA4 HS4 HT4
      obtain ⟨k, hk, rfl, HW, HSR, htr⟩ := hrel
      have hsz := htr.size
      by_cases hlt2 : k < 24
      · have x1 : (k : Int) < 24 := by omega
        obtain ⟨wo, rfl⟩ : ∃ wo : World, wo = wr := ⟨_, rfl⟩
        go_wp2_with fail
        go_loopw [8, 9] (fun v i wr => ∃ j : Nat, j ≤ 24 ∧ i = .int .i64 j ∧ Hid (RowV wr wo.heap.size wr.heap.size v j) ∧ Hid (Src wr b (K + 4 + 48 * k + 2 * j)) ∧ Tch b (b + 1) wo wr) (fun _ i _ => 24 - (intOf i).toNat)
        case atStart => exact ⟨0, by omega, rfl, hide (RowV.nil_ wo _ (Nat.le_refl _)), hide (HSR.out.alloc _), (Tch.refl _ _ _).alloc_ _⟩
        case round =>
          obtain ⟨j, hj, rfl, HR, HSQ, htq⟩ := hrel
          have hsq := htq.size
          by_cases hlj : j < 24
          · have y1 : (j : Int) < 24 := by omega
            go_wp2_with fail
            refine (pick_any b (K + 4 + 48 * k + 2 * j) mm (by omega) (by omega) (by omega) _ HSQ.out).mono ?_
            rintro e w3 ⟨u, rfl, u0, u1, S3, t3⟩
            have hs3 := t3.size
            have HS3 := hide S3
            obtain ⟨r, hr, hro⟩ := HR.out
            have HRL := hide hr
            have HRW := hide ((hro.tch t3 (.inr (by omega))).mono (Nat.le_refl _) hs3)
            have HT3 := hide (htq.trans t3)
            clear hr hro HR S3 t3 HSQ htq
            go_wp2_with (at_builtin; refine wpList_append_own _ rfl (.tmp 35) (.tmp 40) 33 rfl wo.heap.size 4 j0 (.bool false) 1 1 Tryd.underlying33 II.out.1 II.out.2.1 II.out.2.2.1 II.out.2.2.2 rfl (by decide) _ _ _ rfl (HRW.out.1.alloc _) ⟨w3.heap.size, 0, none⟩ 1 1 [.bool (u == 0)] rfl rfl (news_at2 _ _ _ _ rfl) (by simp [Value.oneCell']) (by unfold maxLen; omega) (by omega) (by simp; omega) ?_; intro v' wn hown' hgrow _)
            have hg4 := hgrow.size
            have T5 : Tch b (b + 1) wo wn := (HT3.out.alloc_ _).grownNew hgrow (fun g hg => (HRW.out.lt g hg).1)
            have S5 := hide ((HS3.out.alloc _).keep (fun g hg => hgrow.block g (by have := HS3.out.lt; simp; omega) (fun e => by have := (HRW.out.lt g e.symm).1; omega)))
            clear hg4
            go_roundw
            case rel =>
              refine ⟨j + 1, by omega, by go_num, hide ⟨r ++ [u == 0], by simp [HRL.out], ?_⟩, hide (S5.out.mono (by omega)), T5⟩
              rw [rB_snoc]
              exact Own.of_owns hown'
            case measure => simp [intOf]; omega
          · obtain rfl : j = 24 := by omega
            obtain ⟨r, hr, hnew⟩ := HR.out
            obtain ⟨gr, cr, rfl⟩ := Joins.ownsRow_form hnew.1 (by omega)
            obtain ⟨T, hT, hTr, us, ho1, hro⟩ := HW.out
            have HRL := hide hr
            have HNW := hide hnew
            have HT := hide hT
            have HTR := hide hTr
            have HOO := hide ((ho1.tch htq (.inr (by omega))).mono (Nat.le_refl _) hsq)
            have HRO := hide (hro.tch htq (.inr (by omega)))
            have HTT := hide (htr.trans htq)
            clear ho1 hro hr hnew hT hTr HR HW htq htr
            go_wp2_with (at_builtin; refine wpList_append_own _ rfl (.tmp 42) (.tmp 44) 24 rfl w.heap.size 33 i0 (.slice none 0 0) 1 24 Tryd.underlying24 I.out.1 I.out.2.1 I.out.2.2.1 I.out.2.2.2 rfl (by decide) _ k us rfl (HOO.out.1.alloc _) ⟨wr.heap.size, 0, none⟩ 1 1 [.slice (some ⟨gr, 0, none⟩) 24 cr] rfl rfl (news_at2 _ _ _ _ rfl) (by simp [Value.oneCell']) (by unfold maxLen; omega) (by omega) (by simp; omega) ?_; intro v' wn hown' hgrow _)
            have hg4 := hgrow.size
            have T5 : Tch b (b + 1) w wn := (HTT.out.alloc_ _).grownNew hgrow (fun g hg => (HOO.out.lt g hg).1)
            have S5 := hide ((HSQ.out.alloc _).keep (fun g hg => hgrow.block g (by have := HSQ.out.lt; simp; omega) (fun e => by have := (HOO.out.lt g e.symm).1; omega)))
            clear hg4
            go_roundw
            case rel =>
              exact ⟨k + 1, by omega, by go_num, hide (TabV.snoc HT.out HTR.out HRL.out HOO.out HRO.out HNW.out hsz hsq hgrow hown'), hide (S5.out.mono (by omega)), T5⟩
            case measure => simp [intOf]; omega
      · obtain rfl : k = 24 := by omega
        go_wp2_with fail
        refine (one_any b (K + 4 + 48 * 24) 6 (by omega) (by omega) (by omega) _ HSR.out).mono ?_
        rintro e w6 ⟨y6, rfl, S6, t6⟩
        have hs6 := t6.size
        have HS6 := hide S6
        have HW6 := hide ((HW.out.tch t6 (.inr (by omega))).mono (Nat.le_refl _) hs6)
        have HT6 := hide (htr.trans t6)
        clear S6 t6 HSR HW htr
        cases y6
        · go_wp2_with fail
          go_ret
          exact ⟨_, rfl, HW6.out, HS6.out.mono (by omega), HT6.out⟩
        · go_wp2_with fail
          go_loopw [10] (fun i wr => ∃ k : Nat, k ≤ 24 ∧ i = .int .i64 k ∧ Hid (TabV wr w.heap.size wr.heap.size u5 24) ∧ Hid (Src wr b (K + 1158)) ∧ Tch b (b + 1) w wr) (fun i _ => 24 - (intOf i).toNat)
          case atStart => exact ⟨0, by omega, rfl, HW6, hide (HS6.out.mono (by omega)), HT6.out⟩
          case round =>
            clear HW6 HS6 HT6
            obtain ⟨k, hk, rfl, HW, HSR, htr⟩ := hrel
            have hsz := htr.size
            obtain ⟨gv, cv, g, c, rfl, v1, v2, g1, g2, kc, kf, kr, kput⟩ := HW.out.row (Nat.le_refl _) 3 (by omega)
            have HPUT := hide kput
            clear kput
            by_cases hlt2 : k < 24
            · have x1 : (k : Int) < 24 := by omega
              obtain ⟨y, hy⟩ := kr k hlt2
              have kfk := kf k
              clear kr kf
              go_wp2_with fail
              go_roundw
              case rel =>
                refine ⟨k + 1, by omega, by go_num, hide ?_, hide (HSR.out.setNew (by omega) _ _), htr.setNew (by omega) _ _⟩
                rw [show (wr.setCell ⟨g, k, none⟩ (.bool true)).heap.size = wr.heap.size by simp [World.setCell]]
                exact HPUT.out k true
              case measure => simp [intOf]; omega
            · obtain rfl : k = 24 := by omega
              clear kr kf kc
              go_wp2_with fail
              go_ret
              exact ⟨_, rfl, HW.out, HSR.out.mono (by omega), htr⟩
  · go_wp2_with fail
    refine (l15Two_g b (K + 2) (by omega) _ HS1.out).mono ?_
    rintro e w2 ⟨n1, n2, x1, y1, h1, j1, b1, A1, m1, c1, x2, y2, h2, j2, b2, A2, m2, c2, rfl, S2, t2⟩
    have hs2 := t2.size
    have HS2 := hide S2
    have HT2 := hide (t1.trans t2)
    clear S2 t2 HS1 t1
    go_wp2_with fail
    obtain ⟨W3, hW3⟩ : ∃ W : World, W = (w2.alloc (.cells #[.string n1, .int .i64 x1, .int .i64 y1, .int .i64 h1, .int .i64 j1, .int .i64 b1, .slice A1 m1 c1] 62)).alloc (.cells #[.string n2, .int .i64 x2, .int .i64 y2, .int .i64 h2, .int .i64 j2, .int .i64 b2, .slice A2 m2 c2] 62) := ⟨_, rfl⟩
    rw [← hW3]
    have hs3 : W3.heap.size = w2.heap.size + 2 := by rw [hW3]; simp
    have C1 : CrB W3 w2.heap.size := ⟨by omega, _, _, _, _, _, _, _, by rw [hW3]; exact (box_at _ _ _ _ rfl).alloc (by simp) _⟩
    have C2 : CrB W3 (w2.heap.size + 1) := ⟨by omega, _, _, _, _, _, _, _, by rw [hW3]; exact box_at _ _ _ _ (by simp)⟩
    have HS3 := hide (show Src W3 b (K + 2 + 100) by rw [hW3]; exact (HS2.out.alloc _).alloc _)
    have HT3 := hide (show Tch b (b + 1) w W3 by rw [hW3]; exact (HT2.out.alloc_ _).alloc_ _)
    clear hW3 HS2 HT2
    refine (pick_any b (K + 2 + 100) 40 (by omega) (by omega) (by omega) _ HS3.out).mono ?_
    rintro e w4 ⟨dd, rfl, d0, d1, S4, t4⟩
    have hs4 := t4.size
    have HS4 := hide S4
    have C1' := hide (C1.tch t4 (.inr (by omega)))
    have C2' := hide (C2.tch t4 (.inr (by omega)))
    have HT4 := hide (HT3.out.trans t4)
    clear S4 t4 HS3 HT3 C1 C2
    go_wp2_with fail
    refine (l15Table_g _ _ _ _ C1'.out C2'.out).mono ?_
    rintro e w5 ⟨v5, rfl, hv5, hb5⟩
    have hs5 := hb5.size
    have HV5 := hide hv5
    have HB5 := hide hb5
    clear hv5 hb5
    go_wp2_with fail
    go_ret
    exact ⟨_, rfl, HV5.out.mono (by omega) (Nat.le_refl _), (HS4.out.bel HB5.out).mono (by omega), HT4.out.bel HB5.out⟩

open Go.RowKit
set_option linter.unusedVariables false
set_option linter.unusedSimpArgs false

theorem a2Long_no (A A1 : Option Addr) (n c n1 c1 : Nat) (hn : n ≤ 3000) (hn1 : n1 ≤ 3000) (w : World) : Calls Tryd.prog 4 #[.slice A n c, .slice A1 n1 c1] w fun e w' => e = .returned (.bool false) ∧ w = w' := by
  go_enter Tryd.func4, Tryd.ntmps4
  go_wp2
  go_ret
  exact ⟨ret_bool (by simp; omega), rfl⟩
theorem a2Long_yes (A A1 : Option Addr) (n c n1 c1 : Nat) (hn : 3000 < n ∨ 3000 < n1) (w : World) : Calls Tryd.prog 4 #[.slice A n c, .slice A1 n1 c1] w fun e w' => e = .returned (.bool true) ∧ w = w' := by
  by_cases h : 3000 < n
  · go_enter Tryd.func4, Tryd.ntmps4
    go_wp2
    go_ret
    exact ⟨ret_bool (by simp), rfl⟩
  · have h1 : 3000 < n1 := by omega
    go_enter Tryd.func4, Tryd.ntmps4
    go_wp2
    go_ret
    exact ⟨ret_bool (by simp; omega), rfl⟩
theorem a2At_any (A : Option Addr) (n c lo hi : Nat) (bs : List Value) (k : Nat) (hk : k < 8) (hn : n ≤ maxLen) (w : World) (h : Rd w lo hi 1 A n bs) (hv : ∀ v ∈ bs, ∃ x : Int, v = .int .u8 x ∧ 0 ≤ x ∧ x ≤ 255) :
    Calls Tryd.prog 6 #[.slice A n c, .int .i64 k, .int .i64 24] w fun e w' => ∃ j : Nat, j < 24 ∧ e = .returned (.int .i64 j) ∧ w = w' := by
  by_cases hkn : k < n
  · obtain ⟨g, off, v, rfl, _, _, hv1, hc⟩ := h.at_ hkn
    obtain ⟨x, rfl, x0, x1⟩ := hv v (List.mem_of_getElem? hv1)
    have HV := hide hv
    clear h hv hv1
    have m0 : 0 ≤ x % 24 := by omega
    obtain ⟨j, hj⟩ : ∃ j : Nat, (j : Int) = x % 24 := ⟨(x % 24).toNat, by omega⟩
    have HJ := hide hj
    have hj24 : j < 24 := by omega
    clear hj
    go_enter Tryd.func6, Tryd.ntmps6
    go_wp2
    go_ret
    exact ⟨j, hj24, by rw [HJ.out]; rfl, rfl⟩
  · have HV := hide hv
    have HR := hide h
    clear h hv
    have hk2 : (n : Int) ≤ k := by omega
    go_enter Tryd.func6, Tryd.ntmps6
    go_wp2
    go_ret
    exact ⟨0, by omega, rfl, rfl⟩
theorem A2Table_g (A : Option Addr) (n c hi : Nat) (bs : List Value) (hn : n ≤ maxLen) (w : World) (h : Rd w 0 hi 1 A n bs) (hhi : hi ≤ w.heap.size) (hv : ∀ v ∈ bs, ∃ x : Int, v = .int .u8 x ∧ 0 ≤ x ∧ x ≤ 255) :
    Calls Tryd.prog 5 #[.slice A n c] w fun e w' => ∃ v, e = .returned v ∧ TabV w' w.heap.size w'.heap.size v 24 ∧ Below w.heap.size w w' := by
  have HR := hide h
  have HV := hide hv
  clear h hv
  go_enter Tryd.func5, Tryd.ntmps5
  go_wp2_with fail
  refine (l00From_any A n c hi bs hn _ HR.out hhi HV.out).mono ?_
  rintro e w1 ⟨rfl, S1, hb1⟩
  have hs1 := hb1.size
  go_wp2_with fail
  refine (l15Draw_g w.heap.size 0 (by omega) _ S1).mono ?_
  rintro e w2 ⟨v, rfl, hv2, S2, t2⟩
  go_wp2_with fail
  go_ret
  exact ⟨_, rfl, hv2.mono hs1 (Nat.le_refl _), hb1.trans (t2.below (by omega))⟩
theorem RdDn {w : World} {lo hi m n : Nat} {A : Option Addr} {us : List Value} (h : Rd w lo hi m A n us) (k : Nat) : Rd (w.drewN k) lo hi m A n us := h
theorem l15Ok_yes (A : Option Addr) (n c lo hi : Nat) (T : List (List Bool)) (hm : n ≤ maxLen) (ok : okT T = true) (w : World) (h : RdSS w lo hi A n (rrBool T)) :
    Calls Tryd.prog 29 #[.slice A n c] w fun e w' => e = .returned (.bool true) ∧ w' = w := by
  have := l15Ok_any A n c lo hi T hm w h
  rw [ok] at this; exact this
theorem okTab_yes (A : Option Addr) (n c lo hi : Nat) (T : List (List Bool)) (hm : n ≤ maxLen) (ok : okT T = true) (w : World) (h : RdSS w lo hi A n (rrBool T)) :
    Calls Tryd.prog 22 #[.slice A n c] w fun e w' => e = .returned (.bool true) ∧ w' = w := by
  have := implValidTable_any A n c lo hi T hm w h
  rw [ok] at this; exact this
theorem stV_yes {x y : Int} (hx : dirOk x) (hy : dirOk y) : stV [x, y] = true := by
  rw [stV_pair, inR_mk hx.1 hx.2, inR_mk hy.1 hy.2]; rfl
theorem l17State_yes (A : Option Addr) (c lo hi : Nat) (x y : Int) (hx : dirOk x) (hy : dirOk y) (w : World) (h : Rd w lo hi 1 A 2 (rInt64 [x, y])) :
    Calls Tryd.prog 30 #[.slice A 2 c] w fun e w' => e = .returned (.bool true) ∧ w' = w := by
  have := l17State_any A 2 c lo hi [x, y] rfl (by unfold maxLen; omega) w h
  rw [stV_yes hx hy] at this; exact this
theorem isState_yes (A : Option Addr) (c lo hi : Nat) (x y : Int) (hx : dirOk x) (hy : dirOk y) (w : World) (h : Rd w lo hi 1 A 2 (rInt64 [x, y])) :
    Calls Tryd.prog 24 #[.slice A 2 c] w fun e w' => e = .returned (.bool true) ∧ w' = w := by
  have := isState_any A 2 c lo hi [x, y] rfl (by unfold maxLen; omega) w h
  rw [stV_yes hx hy] at this; exact this

set_option maxRecDepth 100000 in
set_option maxHeartbeats 4000000 in
theorem specStepAllowed_ok (A A1 A2 : Option Addr) (n c c1 c2 lo hi l1 h1 l2 h2 : Nat) (T : List (List Bool)) (hm : n ≤ maxLen) (ok : okT T = true) (x y z u : Int) (hx : dirOk x) (hy : dirOk y) (hz : dirOk z) (hu : dirOk u) (w : World) (h : RdSS w lo hi A n (rrBool T)) (hs : Rd w l1 h1 1 A1 2 (rInt64 [x, y])) (ht : Rd w l2 h2 1 A2 2 (rInt64 [z, u])) :
    Calls Tryd.prog 12 #[.slice A n c, .slice A1 2 c1, .slice A2 2 c2] w fun e w' => e = .returned (.bool (stp T x y z u)) ∧ Below w.heap.size w w' := by
  obtain ⟨bs, os, rfl, _, _, s0, s1⟩ := st_cells hs
  obtain ⟨bt, ot, rfl, _, _, t0, t1⟩ := st_cells ht
  obtain ⟨hx0, hx1⟩ := id hx
  obtain ⟨hy0, hy1⟩ := id hy
  obtain ⟨hz0, hz1⟩ := id hz
  obtain ⟨hu0, hu1⟩ := id hu
  have H2 := hide h
  have HO := hide ok
  have HS := hide hs
  have HT := hide ht
  clear h ok hs ht
  go_enter Tryd.func12, Tryd.ntmps12
  go_wp2_with fail
  go_quiet (first | (go_at_call 29; with_reducible exact Calls.quiet_of_same (l15Ok_yes A n c lo hi T hm HO.out _ (RdSS.drewN H2.out _))) | (go_at_call 30; with_reducible first | exact Calls.quiet_of_same (l17State_yes (some ⟨bs, os, none⟩) c1 l1 h1 x y hx hy _ (RdDn HS.out _)) | exact Calls.quiet_of_same (l17State_yes (some ⟨bt, ot, none⟩) c2 l2 h2 z u hz hu _ (RdDn HT.out _))) | (go_at_call 31; with_reducible exact Calls.quiet_of_same (l17Step_any A n c lo hi T HO.out x y z u hx0 hx1 hy0 hy1 hz0 hz1 hu0 hu1 _ (RdSS.drewN H2.out _))))
  go_wp2_with fail
  go_ret
  exact ⟨rfl, Joins.below_draws _ _ _⟩

end Go.Proofs.YtnbahmjimnhfbaaDoor
