/-
  DRAWINGS of the reference: places, charts, cranes. What is drawn is left open. No condition but those that each theorem names.
-/
import Derived.Test.YtoklcjpokffocaaTbl
namespace Go.Proofs.Ytoklcjpokffocaa
open Go.RowKit
set_option linter.unusedVariables false
set_option linter.unusedSimpArgs false

theorem Tch.setNew {w w' : World} {lo hi g : Nat} (h : Tch lo hi w w') (hg : w.heap.size ≤ g) (j : Nat) (u : Value) : Tch lo hi w (w'.setCell ⟨g, j, none⟩ u) :=
  ⟨h.os, h.tape, h.output, by simpa [World.setCell] using h.size, fun k hk hb => (Below.heap_setCell _ _ _ _ (by show k ≠ g; omega)).trans (h.block k hk hb)⟩
theorem Tch.alloc_ {w w' : World} {lo hi : Nat} (h : Tch lo hi w w') (o : Obj) : Tch lo hi w (w'.alloc o) := h.trans (Tch.of_below ((Below.refl _ _).alloc (Nat.le_refl _) _) _ _)
theorem Tch.drew_ {w w' : World} {lo hi : Nat} (h : Tch lo hi w w') : Tch lo hi w w'.drew := h.trans (Tch.of_below (Joins.below_draws _ _ 1) _ _)
theorem Tch.bel {w w' w'' : World} {lo hi : Nat} (h : Tch lo hi w w') (hb : Below w'.heap.size w' w'') : Tch lo hi w w'' := h.trans (Tch.of_below hb _ _)
theorem Src.setNew {w : World} {b K g : Nat} (h : Src w b K) (hg : b < g) (j : Nat) (u : Value) : Src (w.setCell ⟨g, j, none⟩ u) b K := h.keep fun k hk => Below.heap_setCell _ _ _ _ (by show k ≠ g; omega)
theorem Src.bel {w w' : World} {b K : Nat} (h : Src w b K) (hb : Below w.heap.size w w') : Src w' b K := h.below hb h.lt
theorem Fz.tch {W W' : World} {b lo hi : Nat} (h : Fz W b) (hb : Tch lo hi W W') (hl : b < W.heap.size) (hB : b < lo ∨ hi ≤ b) : Fz W' b := fun i => (World.frozen?_of_block (hb.block b hl hB)).trans (h i)
theorem Tch.grownNew {w w' w'' : World} {lo hi : Nat} {x : Option Nat} (h : Tch lo hi w w') (hg : w'.grownBy w'' x) (hx : ∀ g, x = some g → w.heap.size ≤ g) : Tch lo hi w w'' :=
  ⟨hg.os.trans h.os, hg.tape.trans h.tape, hg.output.trans h.output, Nat.le_trans h.size hg.size, fun k hk hb => (hg.block k (Nat.lt_of_lt_of_le hk h.size) (fun e => by have := hx k e.symm; omega)).trans (h.block k hk hb)⟩
theorem l00Min_e (a b : Int) (w : World) : Calls Try.prog 76 #[.int .i64 a, .int .i64 b] w fun e w' => (∃ x : Int, e = .returned (.int .i64 x)) ∧ w' = w := (l00Min_g a b w).mono fun _ _ h => ⟨⟨_, h.1⟩, h.2⟩
theorem l00Max_e (a b : Int) (w : World) : Calls Try.prog 50 #[.int .i64 a, .int .i64 b] w fun e w' => (∃ x : Int, e = .returned (.int .i64 x)) ∧ w' = w := (l00Max_g a b w).mono fun _ _ h => ⟨⟨_, h.1⟩, h.2⟩
theorem infoCS : (Try.prog.info? 98).map (fun i => (i.zero, i.size, i.bytes)) = some (some (.agg #[.int .i64 0, .int .i64 0]), 2, 16) := by kernel_rfl
theorem cells2_at (w : World) (v0 v1 : Value) (T : TypeId) (b : Nat) (hb : b = w.heap.size) : ∀ (j : Nat) (u : Value), [v0, v1][j]? = some u → (w.alloc (.cells #[v0, v1] T)).cell? ((⟨b, 0, none⟩ : Addr).add j) = some u := by
  subst hb
  intro j u hu
  rw [Go.WideShapes.add_plain, Nat.zero_add, new_cell]
  simpa using hu

set_option maxRecDepth 100000 in
set_option maxHeartbeats 2000000 in
theorem l02Draw_g (b K : Nat) (hK : K ≤ 100000) (w : World) (h : Src w b K) :
    Calls Try.prog 69 #[.pointer (some ⟨b, 0, none⟩)] w fun e w' => ∃ x y : Int, e = .returned (.agg #[.int .i64 x, .int .i64 y]) ∧ Src w' b (K + 4) ∧ Tch b (b + 1) w w' := by
  obtain ⟨W0, hW0⟩ : ∃ W0 : World, W0 = w.alloc (.cells #[.int .i64 0, .int .i64 0] 73) := ⟨_, rfl⟩
  have hlt := h.lt
  have S0 := hide (show Src W0 b K by rw [hW0]; exact h.alloc _)
  have bR : Box W0 w.heap.size [.int .i64 0, .int .i64 0] := by rw [hW0]; exact box_at _ _ _ _ rfl
  have fR : Fz W0 w.heap.size := by rw [hW0]; exact fz_at _ _ _ _ rfl
  have T0 : Tch b (b + 1) w W0 := by rw [hW0]; exact (Tch.refl _ _ _).alloc_ _
  have hs : W0.heap.size = w.heap.size + 1 := by rw [hW0]; simp
  have HW := hide hW0
  clear hW0 h
  go_enter Try.func69, Try.ntmps69
  go_wp2_with fail
  rw [← HW.out]
  refine (pick_any b K 1201 (by omega) (by omega) (by omega) _ S0.out).mono ?_
  rintro e w1 ⟨x, rfl, x0, x1, S1, t1⟩
  have hs1 := t1.size
  have S1 := hide S1
  go_wp2_with fail
  refine (pick_any b (K + 2) 1201 (by omega) (by omega) (by omega) _ S1.out).mono ?_
  rintro e w2 ⟨y, rfl, y0, y1, S2, t2⟩
  have hs2 := t2.size
  have bE := (bR.tch t1 (by omega) (by omega)).tch t2 (by omega) (by omega)
  have fE := (fR.tch t1 (by omega) (by omega)).tch t2 (by omega) (by omega)
  have r0 := bE 0 _ rfl
  have r1 := bE 1 _ rfl
  have v0 := fE 0
  have v1 := fE 1
  have HT := hide ((T0.trans t1).trans t2)
  have S2 := hide S2
  clear bR fR T0 t1 t2 bE fE S1 S0 HW
  go_wp2_with fail
  refine bodyPost_ret (v := .agg #[.int .i64 (x - 600), .int .i64 (y - 600)]) (by simp [results, Try.results69, go_sem, r0, r1]) rfl ⟨_, _, rfl, ?_, ?_⟩
  · exact (S2.out.setNew hlt _ _).setNew hlt _ _
  · exact (HT.out.setNew (Nat.le_refl _) _ _).setNew (Nat.le_refl _) _ _

set_option maxRecDepth 100000 in
set_option maxHeartbeats 2000000 in
theorem l03Draw_g (b K : Nat) (most : Int) (hK : K ≤ 100000) (w : World) (h : Src w b K) :
    Calls Try.prog 70 #[.pointer (some ⟨b, 0, none⟩), .int .i64 most] w fun e w' => ∃ A n c, e = .returned (.slice A n c) ∧ Src w' b (K + 30) ∧ Tch b (b + 1) w w' := by
  obtain ⟨i0, hi0, hz0, hz1, hz2⟩ := info_parts infoCS
  have I := hide (And.intro hi0 (And.intro hz0 (And.intro hz1 hz2)))
  clear hi0 hz0 hz1 hz2
  obtain ⟨W0, hW0⟩ : ∃ W0 : World, W0 = w.alloc (.cells #[] 98) := ⟨_, rfl⟩
  have hlt := h.lt
  have hs0 : W0.heap.size = w.heap.size + 1 := by rw [hW0]; simp
  have S0 := hide (show Src W0 b K by rw [hW0]; exact h.alloc _)
  have O0 := hide (show Own W0 w.heap.size W0.heap.size 98 2 (.slice (some ⟨w.heap.size, 0, none⟩) 0 0) 0 [] by rw [hW0]; exact Own.of_owns ⟨rfl, .inr ⟨w.heap.size, 0, #[], rfl, Nat.le_refl _, heap_alloc_new w _, Nat.le_refl _, by unfold maxLen; omega, rfl, rfl⟩⟩)
  have T0 : Tch b (b + 1) w W0 := by rw [hW0]; exact (Tch.refl _ _ _).alloc_ _
  have HW := hide hW0
  clear hW0 h
  go_enter Try.func70, Try.ntmps70
  go_wp2_with fail
  rw [← HW.out]
  refine (pick_any b K 9000 (by omega) (by omega) (by omega) _ S0.out).mono ?_
  rintro e w1 ⟨l0, rfl, a0, a1, S1, t1⟩
  have hs1 := t1.size
  have S1 := hide S1
  go_wp2_with fail
  refine (pick_any b (K + 2) 5 (by omega) (by omega) (by omega) _ S1.out).mono ?_
  rintro e w2 ⟨k0, rfl, c0, c1, S2, t2⟩
  have hs2 := t2.size
  have S2 := hide S2
  have T2 := (T0.trans t1).trans t2
  have O2 := hide (((O0.out.tch t1 (.inr (by omega))).tch t2 (.inr (by omega))).mono (Nat.le_refl _) (Nat.le_trans hs1 hs2))
  clear t1 t2 T0 O0 S0 S1 HW
  go_wp2_with fail
  go_loopw [5, 6, 7, 8] (fun v r l k wr => ∃ (n : Nat) (xs : List Value) (r' l' k' : Int), n ≤ 5 ∧ r = .int .i64 r' ∧ l = .int .i64 l' ∧ k = .int .i64 k' ∧ k' ≤ 5 - n ∧ -1 ≤ k' ∧ Hid (Src wr b (K + 4 + 4 * n)) ∧ Hid (Own wr w.heap.size wr.heap.size 98 2 v n xs) ∧ Tch b (b + 1) w wr ∧ w.heap.size ≤ wr.heap.size) (fun _ _ _ k _ => (intOf k + 1).toNat)
  case atStart => exact ⟨0, [], 20, _, _, by omega, rfl, rfl, rfl, by omega, by omega, S2, O2, T2, by omega⟩
  case round =>
    clear S2 O2 T2
    obtain ⟨n, xs, r, l, k, hn, rfl, rfl, rfl, hk5, hk1, HS, HO, hT, hsr⟩ := hrel
    obtain ⟨A, c, rfl, _, _, _⟩ := HO.out.rd
    by_cases hk : 0 < k
    · have hk' : decide (0 < k) = true := by simpa using hk
      by_cases hr : r < most
      · have hr' : decide (r < most) = true := by simpa using hr
        go_wp2_with fail
        refine (pick_any b (K + 4 + 4 * n) 150 (by omega) (by omega) (by omega) _ HS.out).mono ?_
        rintro e w3 ⟨p, rfl, p0, p1, S3, t3⟩
        have hs3 := t3.size
        have S3 := hide S3
        have HOW := hide ((HO.out.tch t3 (.inr (by omega))).mono (Nat.le_refl _) hs3)
        have T3 := hT.trans t3
        clear HO HS hT t3
        go_wp2_with fail
        refine (l00Min_e _ _ _).mono ?_
        rintro e w' ⟨⟨mm, rfl⟩, hw⟩
        obtain rfl := hw.symm
        go_wp2_with (at_builtin; refine wpList_append_own _ rfl (.tmp 32) (.tmp 36) 74 rfl w.heap.size 98 i0 (.agg #[.int .i64 0, .int .i64 0]) 2 16 Try.underlying74 I.out.1 I.out.2.1 I.out.2.2.1 I.out.2.2.2 rfl (by decide) _ n xs rfl (HOW.out.1.alloc _) ⟨w3.heap.size, 0, none⟩ 1 1 [.int .i64 mm, .int .i64 l] rfl rfl (cells2_at _ _ _ _ _ rfl) (by simp [Value.oneCell']) (by unfold maxLen; omega) (by omega) (by simp; omega) ?_; intro v' w4 hown' hgrow _)
        obtain ⟨A4, c4, rfl, _, _, _⟩ := (Own.of_owns hown').rd
        have hg4 := hgrow.size
        have T4 : Tch b (b + 1) w w4 := (T3.alloc_ _).grownNew hgrow (fun g hg => (HOW.out.lt g hg).1)
        have S4 := hide ((S3.out.alloc _).keep (fun g hg => hgrow.block g (by have := S3.out.lt; simp; omega) (fun e => by have := (HOW.out.lt g e.symm).1; omega)))
        have O4 := hide (Own.of_owns hown')
        have hz4 : w.heap.size ≤ w4.heap.size := T4.size
        clear hown' hgrow hg4 T3 S3 HOW
        go_wp2_with fail
        refine (pick_any b (K + 4 + 4 * n + 2) 2500 (by omega) (by omega) (by omega) _ S4.out).mono ?_
        rintro e w5 ⟨q, rfl, q0, q1, S5, t5⟩
        have hs5 := t5.size
        have S5 := hide S5
        have O5 := hide ((O4.out.tch t5 (.inr (by omega))).mono (Nat.le_refl _) hs5)
        have T5 := T4.trans t5
        clear T4 t5 O4 S4
        go_wp2_with fail
        refine (l00Max_e _ _ _).mono ?_
        rintro e w' ⟨⟨mx', rfl⟩, hw⟩
        obtain rfl := hw.symm
        go_wp2_with fail
        go_roundw
        case rel => exact ⟨n + 1, _, _, _, k - 1, by omega, rfl, rfl, by go_num, by omega, by omega, hide (S5.out.mono (by omega)), O5, T5, by omega⟩
        case measure => first | (simp [intOf]; done) | (simp [intOf]; omega)
      · have hr' : decide (r < most) = false := by simpa using hr
        go_wp2_with fail
        go_ret
        exact ⟨⟨_, _, _, rfl⟩, HS.out.mono (by omega), hT⟩
    · have hk' : decide (0 < k) = false := by simpa using hk
      go_wp2_with fail
      go_ret
      exact ⟨⟨_, _, _, rfl⟩, HS.out.mono (by omega), hT⟩

set_option maxRecDepth 100000 in
set_option maxHeartbeats 2000000 in
theorem l04Draw_g (b K : Nat) (nm : ByteArray) (hK : K ≤ 90000) (w : World) (h : Src w b K) :
    Calls Try.prog 66 #[.pointer (some ⟨b, 0, none⟩), .string nm] w fun e w' => ∃ (x y hh j bb : Int) (A : Option Addr) (n c : Nat), e = .returned (.agg #[.string nm, .int .i64 x, .int .i64 y, .int .i64 hh, .int .i64 j, .int .i64 bb, .slice A n c]) ∧ Src w' b (K + 40) ∧ Tch b (b + 1) w w' := by
  have hlt := h.lt
  have HS := hide h
  have HT := hide (Tch.refl b (b + 1) w)
  clear h
  go_enter Try.func66, Try.ntmps66
  go_wp2_with fail
  obtain ⟨w_1, hW⟩ : ∃ W : World, W = w.alloc (.cells #[.string ⟨#[]⟩, .int .i64 0, .int .i64 0, .int .i64 0, .int .i64 0, .int .i64 0, .slice none 0 0] 76) := ⟨_, rfl⟩
  rw [← hW]
  have hs_w_1 : w_1.heap.size = w.heap.size + 1 := by rw [hW]; simp
  have bR : Box w_1 w.heap.size [.string ⟨#[]⟩, .int .i64 0, .int .i64 0, .int .i64 0, .int .i64 0, .int .i64 0, .slice none 0 0] := by rw [hW]; exact box_at _ _ _ _ rfl
  have fR : Fz w_1 w.heap.size := by rw [hW]; exact fz_at _ _ _ _ rfl
  replace HS := hide (show Src w_1 b K by rw [hW]; exact HS.out.alloc _)
  replace HT := hide (show Tch b (b + 1) w w_1 by rw [hW]; exact HT.out.alloc_ _)
  clear hW
  refine (l02Draw_g b K (by omega) _ HS.out).mono ?_
  rintro e w_2 ⟨x, y, rfl, S1, t1⟩
  replace HS := hide S1
  clear S1
  have hs_w_2 : w_1.heap.size ≤ w_2.heap.size := t1.size
  replace bR := bR.tch t1 (by omega) (by omega)
  replace fR := fR.tch t1 (by omega) (by omega)
  replace HT := hide (HT.out.trans t1)
  clear t1
  go_wp2_with fail
  obtain ⟨w_3, hW⟩ : ∃ W : World, W = w_2.alloc (.cells #[.string nm, .int .i64 x, .int .i64 y, .int .i64 0, .int .i64 0, .int .i64 0, .slice none 0 0] 76) := ⟨_, rfl⟩
  rw [← hW]
  have hs_w_3 : w_3.heap.size = w_2.heap.size + 1 := by rw [hW]; simp
  replace bR : Box w_3 w.heap.size [.string ⟨#[]⟩, .int .i64 0, .int .i64 0, .int .i64 0, .int .i64 0, .int .i64 0, .slice none 0 0] := by rw [hW]; exact bR.alloc (by omega) _
  replace fR : Fz w_3 w.heap.size := by rw [hW]; exact fR.alloc (by omega) _
  have bC : Box w_3 w_2.heap.size [.string nm, .int .i64 x, .int .i64 y, .int .i64 0, .int .i64 0, .int .i64 0, .slice none 0 0] := by rw [hW]; exact box_at _ _ _ _ rfl
  have fC : Fz w_3 w_2.heap.size := by rw [hW]; exact fz_at _ _ _ _ rfl
  replace HS := hide (show Src w_3 b (K + 4) by rw [hW]; exact HS.out.alloc _)
  replace HT := hide (show Tch b (b + 1) w w_3 by rw [hW]; exact HT.out.alloc_ _)
  clear hW
  refine (pick_any b (K + 4) 400 (by omega) (by omega) (by omega) _ HS.out).mono ?_
  rintro e w_4 ⟨p4, rfl, p4a, p4b, S1, t1⟩
  replace HS := hide S1
  clear S1
  have hs_w_4 : w_3.heap.size ≤ w_4.heap.size := t1.size
  replace bR := bR.tch t1 (by omega) (by omega)
  replace fR := fR.tch t1 (by omega) (by omega)
  replace bC := bC.tch t1 (by omega) (by omega)
  replace fC := fC.tch t1 (by omega) (by omega)
  replace HT := hide (HT.out.trans t1)
  clear t1
  have lC3 := bC 3 _ rfl
  have mC3 := fC 3
  go_wp2_with fail
  clear lC3 mC3
  obtain ⟨w_5, hW⟩ : ∃ W : World, W = w_4.setCell ⟨w_2.heap.size, 3, none⟩ (.int .i64 (200 + p4)) := ⟨_, rfl⟩
  rw [← hW]
  have hs_w_5 : w_5.heap.size = w_4.heap.size := by rw [hW]; simp [World.setCell]
  replace bR : Box w_5 w.heap.size [.string ⟨#[]⟩, .int .i64 0, .int .i64 0, .int .i64 0, .int .i64 0, .int .i64 0, .slice none 0 0] := by rw [hW]; exact bR.far _ _ (by show w_2.heap.size ≠ w.heap.size; omega)
  replace fR : Fz w_5 w.heap.size := by rw [hW]; exact fR.set _ _
  replace bC : Box w_5 w_2.heap.size [.string nm, .int .i64 x, .int .i64 y, .int .i64 (200 + p4), .int .i64 0, .int .i64 0, .slice none 0 0] := by rw [hW]; exact bC.put 3 _ (by simp)
  replace fC : Fz w_5 w_2.heap.size := by rw [hW]; exact fC.set _ _
  replace HS := hide (show Src w_5 b (K + 6) by rw [hW]; exact HS.out.setNew (by omega) _ _)
  replace HT := hide (show Tch b (b + 1) w w_5 by rw [hW]; exact HT.out.setNew (by omega) _ _)
  clear hW
  refine (pick_any b (K + 6) 400 (by omega) (by omega) (by omega) _ HS.out).mono ?_
  rintro e w_6 ⟨p6, rfl, p6a, p6b, S1, t1⟩
  replace HS := hide S1
  clear S1
  have hs_w_6 : w_5.heap.size ≤ w_6.heap.size := t1.size
  replace bR := bR.tch t1 (by omega) (by omega)
  replace fR := fR.tch t1 (by omega) (by omega)
  replace bC := bC.tch t1 (by omega) (by omega)
  replace fC := fC.tch t1 (by omega) (by omega)
  replace HT := hide (HT.out.trans t1)
  clear t1
  have lC4 := bC 4 _ rfl
  have mC4 := fC 4
  go_wp2_with fail
  clear lC4 mC4
  obtain ⟨w_7, hW⟩ : ∃ W : World, W = w_6.setCell ⟨w_2.heap.size, 4, none⟩ (.int .i64 (200 + p6)) := ⟨_, rfl⟩
  rw [← hW]
  have hs_w_7 : w_7.heap.size = w_6.heap.size := by rw [hW]; simp [World.setCell]
  replace bR : Box w_7 w.heap.size [.string ⟨#[]⟩, .int .i64 0, .int .i64 0, .int .i64 0, .int .i64 0, .int .i64 0, .slice none 0 0] := by rw [hW]; exact bR.far _ _ (by show w_2.heap.size ≠ w.heap.size; omega)
  replace fR : Fz w_7 w.heap.size := by rw [hW]; exact fR.set _ _
  replace bC : Box w_7 w_2.heap.size [.string nm, .int .i64 x, .int .i64 y, .int .i64 (200 + p4), .int .i64 (200 + p6), .int .i64 0, .slice none 0 0] := by rw [hW]; exact bC.put 4 _ (by simp)
  replace fC : Fz w_7 w_2.heap.size := by rw [hW]; exact fC.set _ _
  replace HS := hide (show Src w_7 b (K + 8) by rw [hW]; exact HS.out.setNew (by omega) _ _)
  replace HT := hide (show Tch b (b + 1) w w_7 by rw [hW]; exact HT.out.setNew (by omega) _ _)
  clear hW
  refine (pick_any b (K + 8) 150 (by omega) (by omega) (by omega) _ HS.out).mono ?_
  rintro e w_8 ⟨p8, rfl, p8a, p8b, S1, t1⟩
  replace HS := hide S1
  clear S1
  have hs_w_8 : w_7.heap.size ≤ w_8.heap.size := t1.size
  replace bR := bR.tch t1 (by omega) (by omega)
  replace fR := fR.tch t1 (by omega) (by omega)
  replace bC := bC.tch t1 (by omega) (by omega)
  replace fC := fC.tch t1 (by omega) (by omega)
  replace HT := hide (HT.out.trans t1)
  clear t1
  have lC5 := bC 5 _ rfl
  have lC4 := bC 4 _ rfl
  have mC5 := fC 5
  have mC4 := fC 4
  go_wp2_with fail
  clear lC5 lC4 mC5 mC4
  obtain ⟨w_9, hW⟩ : ∃ W : World, W = w_8.setCell ⟨w_2.heap.size, 5, none⟩ (.int .i64 p8) := ⟨_, rfl⟩
  rw [← hW]
  have hs_w_9 : w_9.heap.size = w_8.heap.size := by rw [hW]; simp [World.setCell]
  replace bR : Box w_9 w.heap.size [.string ⟨#[]⟩, .int .i64 0, .int .i64 0, .int .i64 0, .int .i64 0, .int .i64 0, .slice none 0 0] := by rw [hW]; exact bR.far _ _ (by show w_2.heap.size ≠ w.heap.size; omega)
  replace fR : Fz w_9 w.heap.size := by rw [hW]; exact fR.set _ _
  replace bC : Box w_9 w_2.heap.size [.string nm, .int .i64 x, .int .i64 y, .int .i64 (200 + p4), .int .i64 (200 + p6), .int .i64 p8, .slice none 0 0] := by rw [hW]; exact bC.put 5 _ (by simp)
  replace fC : Fz w_9 w_2.heap.size := by rw [hW]; exact fC.set _ _
  replace HS := hide (show Src w_9 b (K + 10) by rw [hW]; exact HS.out.setNew (by omega) _ _)
  replace HT := hide (show Tch b (b + 1) w w_9 by rw [hW]; exact HT.out.setNew (by omega) _ _)
  clear hW
  refine (l03Draw_g b (K + 10) _ (by omega) _ HS.out).mono ?_
  rintro e w_30 ⟨A, n, c, rfl, S1, t1⟩
  replace HS := hide S1
  clear S1
  have hs_w_30 : w_9.heap.size ≤ w_30.heap.size := t1.size
  replace bR := bR.tch t1 (by omega) (by omega)
  replace fR := fR.tch t1 (by omega) (by omega)
  replace bC := bC.tch t1 (by omega) (by omega)
  replace fC := fC.tch t1 (by omega) (by omega)
  replace HT := hide (HT.out.trans t1)
  clear t1
  have lC0 := bC 0 _ rfl
  have lC1 := bC 1 _ rfl
  have lC2 := bC 2 _ rfl
  have lC3 := bC 3 _ rfl
  have lC4 := bC 4 _ rfl
  have lC5 := bC 5 _ rfl
  have lC6 := bC 6 _ rfl
  have mC0 := fC 0
  have mC1 := fC 1
  have mC2 := fC 2
  have mC3 := fC 3
  have mC4 := fC 4
  have mC5 := fC 5
  have mC6 := fC 6
  have lR0 := bR 0 _ rfl
  have lR1 := bR 1 _ rfl
  have lR2 := bR 2 _ rfl
  have lR3 := bR 3 _ rfl
  have lR4 := bR 4 _ rfl
  have lR5 := bR 5 _ rfl
  have lR6 := bR 6 _ rfl
  have mR0 := fR 0
  have mR1 := fR 1
  have mR2 := fR 2
  have mR3 := fR 3
  have mR4 := fR 4
  have mR5 := fR 5
  have mR6 := fR 6
  go_wp2_with fail
  refine bodyPost_ret (v := .agg #[.string nm, .int .i64 x, .int .i64 y, .int .i64 (200 + p4), .int .i64 (200 + p6), .int .i64 p8, .slice A n c]) (by simp [results, Try.results66, go_sem, lR0, lR1, lR2, lR3, lR4, lR5, lR6]) rfl ⟨_, _, _, _, _, _, _, _, rfl, ?_, ?_⟩
  · exact (((((((((HS.out.setNew (by omega) _ _).setNew (by omega) _ _).setNew (by omega) _ _).setNew (by omega) _ _).setNew (by omega) _ _).setNew (by omega) _ _).setNew (by omega) _ _).setNew (by omega) _ _)).mono (by omega)
  · exact ((((((((HT.out.setNew (by omega) _ _).setNew (by omega) _ _).setNew (by omega) _ _).setNew (by omega) _ _).setNew (by omega) _ _).setNew (by omega) _ _).setNew (by omega) _ _).setNew (by omega) _ _)


end Go.Proofs.Ytoklcjpokffocaa
