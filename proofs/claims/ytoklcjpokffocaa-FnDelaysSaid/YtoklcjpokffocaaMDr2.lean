/-
  Several texts in one:
  MOTIONS as the reference draws them. What is drawn is left open, but for its form. No condition but those that each theorem names.
  MOTIONS as the reference draws them, some of them bent. What is drawn is left open, but for its form. No condition but those that each theorem names.
-/
import Derived.Test.YtoklcjpokffocaaRm3
import Derived.Test.YtoklcjpokffocaaDrawC
namespace Go.Proofs.Ytoklcjpokffocaa
open Go.RowKit
set_option linter.unusedVariables false
set_option linter.unusedSimpArgs false

/-- The memory of a drawing of a motion: the result's box p, the motion's box q, the row of its steps. -/
structure MoI (W : World) (base p q : Nat) (x : Int) (v : Value) (l : List Int) : Prop where
  r1 : Box W p [.int .i64 0, .slice none 0 0]
  ba : Box W q [.int .i64 x, v]
  f1 : Fz W p
  fa : Fz W q
  oa : W.ownsRow base 2 1 v l.length (rInt64 l)
  na : ∀ g, v.ownBlock = some g → g ≠ p ∧ g ≠ q
  lt : p < W.heap.size ∧ q < W.heap.size
  di : base ≤ p ∧ p < q

section
variable {W W' : World} {base p q : Nat} {x : Int} {v : Value} {l : List Int}
theorem MoI.keep (h : MoI W base p q x v l) (hs : W.heap.size ≤ W'.heap.size) (hk : ∀ g, base ≤ g → g < W.heap.size → W'.heap[g]? = W.heap[g]?) : MoI W' base p q x v l := by
  obtain ⟨l1, l2⟩ := h.lt
  obtain ⟨d1, d2⟩ := h.di
  refine ⟨fun i u hu => (World.cell?_of_block (a := ⟨p, i, none⟩) (hk p d1 l1)).trans (h.r1 i u hu), fun i u hu => (World.cell?_of_block (a := ⟨q, i, none⟩) (hk q (by omega) l2)).trans (h.ba i u hu), fun i => (World.frozen?_of_block (a := ⟨p, i, none⟩) (hk p d1 l1)).trans (h.f1 i), fun i => (World.frozen?_of_block (a := ⟨q, i, none⟩) (hk q (by omega) l2)).trans (h.fa i), owns_of_block h.oa (fun g hg => hk g (h.oa.lt g hg).1 (h.oa.lt g hg).2), h.na, by omega, h.di⟩
theorem MoI.tch {b : Nat} (h : MoI W base p q x v l) (t : Tch b (b + 1) W W') (hb : b < base) : MoI W' base p q x v l := h.keep t.size fun g h1 h2 => t.block g h2 (.inr (by omega))
theorem MoI.drew (h : MoI W base p q x v l) : MoI W.drew base p q x v l := h.keep (Nat.le_refl _) fun _ _ _ => rfl
theorem MoI.alloc (h : MoI W base p q x v l) (o : Obj) : MoI (W.alloc o) base p q x v l := h.keep (by simp) fun g _ h2 => Below.heap_alloc _ _ _ h2
theorem MoI.start (h : MoI W base p q x v l) (y : Int) : MoI (W.setCell ⟨q, 0, none⟩ (.int .i64 y)) base p q y v l := by
  obtain ⟨d1, d2⟩ := h.di
  have hs : (W.setCell ⟨q, 0, none⟩ (.int .i64 y)).heap.size = W.heap.size := by simp [World.setCell]
  exact ⟨h.r1.far _ _ (by show q ≠ p; omega), h.ba.put 0 _ (by simp), h.f1.set _ _, h.fa.set _ _, owns_set h.oa (fun g hg => (h.na g hg).2) _ _, h.na, by rw [hs]; exact h.lt, h.di⟩
/-- Other steps, in a row of their own: behind what has turned no block but the old row's, and behind the store. -/
theorem MoI.steps (h : MoI W base p q x v l) {u : Value} {l' : List Int} (ho : W'.ownsRow base 2 1 u l'.length (rInt64 l')) (hg : W.grownBy W' v.ownBlock) (hu : ∀ g, u.ownBlock = some g → v.ownBlock = some g ∨ W.heap.size ≤ g) : MoI (W'.setCell ⟨q, 1, none⟩ u) base p q x u l' := by
  obtain ⟨l1, l2⟩ := h.lt
  obtain ⟨d1, d2⟩ := h.di
  have hsz := hg.size
  have hno : ∀ r, r < W.heap.size → (r = p ∨ r = q) → W'.heap[r]? = W.heap[r]? := by
    intro r hr hor
    refine hg.block r hr fun e => ?_
    have := h.na r e.symm
    omega
  have hs : (W'.setCell ⟨q, 1, none⟩ u).heap.size = W'.heap.size := by simp [World.setCell]
  have hne : ∀ g, u.ownBlock = some g → g ≠ p ∧ g ≠ q := by
    intro g e
    rcases hu g e with hu | hu
    · exact h.na g hu
    · omega
  have B1 : Box W' p [.int .i64 0, .slice none 0 0] := fun i y hy => (World.cell?_of_block (a := ⟨p, i, none⟩) (hno p l1 (.inl rfl))).trans (h.r1 i y hy)
  have B2 : Box W' q [.int .i64 x, v] := fun i y hy => (World.cell?_of_block (a := ⟨q, i, none⟩) (hno q l2 (.inr rfl))).trans (h.ba i y hy)
  refine ⟨B1.far _ _ (by show q ≠ p; omega), B2.put 1 _ (by simp), ?_, ?_, owns_set ho (fun g hg => (hne g hg).2) _ _, hne, by rw [hs]; omega, h.di⟩
  · exact Fz.set (fun i => (World.frozen?_of_block (a := ⟨p, i, none⟩) (hno p l1 (.inl rfl))).trans (h.f1 i)) _ _
  · exact Fz.set (fun i => (World.frozen?_of_block (a := ⟨q, i, none⟩) (hno q l2 (.inr rfl))).trans (h.fa i)) _ _
theorem MoI.cell (h : MoI W base p q x v l) (hg : W.grownBy W' v.ownBlock) : W'.cell? ⟨q, 1, none⟩ = some v ∧ W'.frozen? ⟨q, 1, none⟩ = false := by
  have e : W'.heap[q]? = W.heap[q]? := hg.block q h.lt.2 fun e => (h.na q e.symm).2 rfl
  exact ⟨(World.cell?_of_block (a := ⟨q, 1, none⟩) e).trans (h.ba 1 _ rfl), (World.frozen?_of_block (a := ⟨q, 1, none⟩) e).trans (h.fa 1)⟩
/-- A motion in a new box. -/
theorem MoI.new {p : Nat} (hr : Box W p [.int .i64 0, .slice none 0 0]) (hf : Fz W p) (hb : base ≤ p) (hp : p < W.heap.size) (ho : W.ownsRow base 2 1 v l.length (rInt64 l)) (hne : ∀ g, v.ownBlock = some g → g ≠ p) (x : Int) {X : World} (hX : W.alloc (.cells #[.int .i64 x, v] 27) = X) : MoI X base p W.heap.size x v l := by
  subst hX
  refine ⟨hr.alloc hp _, box_at _ _ _ _ rfl, hf.alloc hp _, fz_at _ _ _ _ rfl, ho.alloc _, fun g hg => ⟨hne g hg, by have := (ho.lt g hg).2; omega⟩, by simp; omega, by omega⟩
end
theorem stepsV_snoc {l : List Int} {x : Int} (h : stepsV l = true) (h1 : -1 ≤ x) (h2 : x ≤ 1) : stepsV (l ++ [x]) = true := by
  unfold stepsV at *
  rw [List.all_append, h]
  simp [inR]
  omega

set_option maxRecDepth 100000 in
set_option maxHeartbeats 2000000 in
theorem l16Draw_g (b K : Nat) (hK : K ≤ 50000) (w : World) (h : Src w b K) :
    Calls Try.prog 26 #[.pointer (some ⟨b, 0, none⟩)] w fun e w' => ∃ (st : Int) (l : List Int) (n : Nat) (v : Value), e = .returned (.agg #[.int .i64 st, v]) ∧ 0 ≤ st ∧ st ≤ 23 ∧ stepsV l = true ∧ l.length = n ∧ n ≤ 13 ∧ Own w' w.heap.size w'.heap.size 2 1 v n (rInt64 l) ∧ Src w' b (K + 60) ∧ Tch b (b + 1) w w' := by
  obtain ⟨i0, hi0, hz0, hz1, hz2⟩ := info_parts infoInt64
  have I := hide (And.intro hi0 (And.intro hz0 (And.intro hz1 hz2)))
  clear hi0 hz0 hz1 hz2
  have hlt := h.lt
  obtain ⟨X, hX⟩ : ∃ X, w.alloc (.cells #[.int .i64 0, .slice none 0 0] 27) = X := ⟨_, rfl⟩
  have hsx : X.heap.size = w.heap.size + 1 := by rw [← hX]; simp
  have HS := hide (show Src X b K by rw [← hX]; exact h.alloc _)
  have HT := hide (show Tch b (b + 1) w X by rw [← hX]; exact (Tch.refl _ _ _).alloc_ _)
  have BR : Box X w.heap.size [.int .i64 0, .slice none 0 0] := by rw [← hX]; exact box_at _ _ _ _ rfl
  have FR : Fz X w.heap.size := by rw [← hX]; exact fz_at _ _ _ _ rfl
  have HX := hide hX
  clear hX h
  go_enter Try.func26, Try.ntmps26
  go_wp2_with fail
  rw [HX.out]
  refine (pick_any b K 24 (by omega) (by omega) (by omega) _ HS.out).mono ?_
  rintro e w1 ⟨st, rfl, sta, stb, S1, t1⟩
  have hs_w1 := t1.size
  replace HS := hide S1
  replace HT := hide (HT.out.trans t1)
  replace BR := BR.tch t1 (by omega) (by omega)
  replace FR := FR.tch t1 (by omega) (by omega)
  clear S1 t1 HX
  go_wp2_with fail
  obtain ⟨X1, hX1⟩ : ∃ X1, w1.alloc (.cells #[] 2) = X1 := ⟨_, rfl⟩
  rw [hX1]
  have hsx1 : X1.heap.size = w1.heap.size + 1 := by rw [← hX1]; simp
  have HO0 := hide (show X1.ownsRow w.heap.size 2 1 (.slice (some ⟨w1.heap.size, 0, none⟩) 0 0) ([] : List Int).length (rInt64 []) by rw [← hX1]; exact ⟨rfl, .inr ⟨w1.heap.size, 0, #[], rfl, by omega, heap_alloc_new _ _, Nat.le_refl _, by decide, rfl, rfl⟩⟩)
  replace BR : Box X1 w.heap.size [.int .i64 0, .slice none 0 0] := by rw [← hX1]; exact BR.alloc (by omega) _
  replace FR : Fz X1 w.heap.size := by rw [← hX1]; exact FR.alloc (by omega) _
  replace HS := hide (show Src X1 b (K + 2) by rw [← hX1]; exact HS.out.alloc _)
  replace HT := hide (show Tch b (b + 1) w X1 by rw [← hX1]; exact HT.out.alloc_ _)
  clear hX1
  obtain ⟨X2, hX2⟩ : ∃ X2, X1.alloc (.cells #[.int .i64 st, .slice (some ⟨w1.heap.size, 0, none⟩) 0 0] 27) = X2 := ⟨_, rfl⟩
  have HM := hide (MoI.new BR FR (Nat.le_refl _) (by omega) HO0.out (fun g hg => by simp [Value.ownBlock] at hg; omega) st hX2)
  rw [hX2]
  replace HS := hide (show Src X2 b (K + 2) by rw [← hX2]; exact HS.out.alloc _)
  replace HT := hide (show Tch b (b + 1) w X2 by rw [← hX2]; exact HT.out.alloc_ _)
  clear hX2 BR FR HO0
  obtain ⟨qq, hqq⟩ : ∃ qq, X1.heap.size = qq := ⟨_, rfl⟩
  have e1 : w1.heap.size + 1 = qq := by omega
  try rw [e1]
  rw [hqq] at HM
  clear hqq e1
  refine (pick_any b (K + 2) 3 (by omega) (by omega) (by omega) _ HS.out).mono ?_
  rintro e w2 ⟨y1, rfl, y1a, y1b, S1, t1⟩
  have hs_w2 := t1.size
  replace HS := hide S1
  replace HT := hide (HT.out.trans t1)
  replace HM := hide (HM.out.tch t1 hlt)
  clear S1 t1
  go_wp2_with fail
  have hmw : IntKind.i64.wrap (y1 - 1) = y1 - 1 := IntWalk.i64_in _ (by omega)
  try rw [hmw]
  clear hmw
  refine (pick_any b (K + 2 + 2) 14 (by omega) (by omega) (by omega) _ HS.out).mono ?_
  rintro e w3 ⟨k0, rfl, k0a, k0b, S1, t1⟩
  have hs_w3 := t1.size
  replace HS := hide S1
  replace HT := hide (HT.out.trans t1)
  replace HM := hide (HM.out.tch t1 hlt)
  clear S1 t1
  go_wp2_with fail
  go_loopw [4, 5] (fun d k wr => ∃ (n : Nat) (la : List Int) (x k' : Int) (va : Value), n ≤ 13 ∧ d = .int .i64 x ∧ -1 ≤ x ∧ x ≤ 1 ∧ k = .int .i64 k' ∧ 0 ≤ k' ∧ k' ≤ 13 - n ∧ Hid (la.length = n) ∧ Hid (stepsV la = true) ∧ Hid (MoI wr w.heap.size w.heap.size qq st va la) ∧ Hid (Src wr b (K + 6 + 4 * n)) ∧ Hid (Tch b (b + 1) w wr)) (fun _ k _ => (intOf k).toNat)
  case atStart => exact ⟨0, [], _, _, _, by omega, rfl, by omega, by omega, rfl, by omega, by omega, hide rfl, hide rfl, HM, HS, HT⟩
  case round =>
    clear HM HS HT
    obtain ⟨n, la, x, k', va, hn, rfl, hx1, hx2, rfl, hk1, hk2, HLA, HSV, HM, HS, HT⟩ := hrel
    by_cases hk : 0 < k'
    · have hk' : decide (0 < k') = true := by simpa using hk
      go_wp2_with fail
      refine (one_any b (K + 6 + 4 * n) 5 (by omega) (by omega) (by omega) _ HS.out).mono ?_
      rintro e w4 ⟨y, rfl, S1, t1⟩
      have hs_w4 := t1.size
      replace HS := hide S1
      replace HT := hide (HT.out.trans t1)
      replace HM := hide (HM.out.tch t1 hlt)
      clear S1 t1
      cases y
      · go_upto_region 8 with fail
        have hla : la.length ≤ 4096 := by have := HLA.out; omega
        obtain ⟨nl, hnl⟩ : ∃ nl, (la).length = nl := ⟨_, rfl⟩
        have H1 := hide (show (w4.alloc (.cells #[.int .i64 x] 2)).ownsRow w.heap.size 2 1 va nl (rInt64 la) by rw [← hnl]; exact (HM.out.alloc _).oa)
        have HNL := hide hnl
        clear hnl
        have c1 := HM.out.ba 1 _ rfl
        have f1 := HM.out.fa 1
        have hnl2 : nl ≤ 4096 := by have := HNL.out; omega
        have hlo := HM.out.lt
        have hdi := HM.out.di
        go_upto_region 5 with (at_builtin; refine wpList_append_lies _ (by rfl) (.tmp 25) (.tmp 27) 25 (by rfl) w.heap.size 2 i0 (.int .i64 0) 1 8 Try.underlying25 I.out.1 I.out.2.1 I.out.2.2.1 I.out.2.2.2 rfl (by decide) va nl (rInt64 la) (by rfl) H1.out ⟨w4.heap.size, 0, none⟩ 1 1 [.int .i64 x] (by rfl) rfl (cell_one_t _ _ _ _ rfl) (by simp [Value.oneCell']) (by decide) (by unfold maxLen; omega) (by omega) (by simp; omega) _ rfl ?_; intro gg cap wn hown' hgrow hat hlt'; have HO := hide hown'; have HG := hide hgrow; have HAT := hide hat; replace c1 := ((HM.out.alloc (.cells #[.int .i64 x] 2)).cell hgrow).1; replace f1 := ((HM.out.alloc (.cells #[.int .i64 x] 2)).cell hgrow).2; clear hown' hgrow hat hlt')
        have hM2 := (HM.out.alloc (.cells #[.int .i64 x] 2)).steps (u := .slice (some ⟨gg, 0, none⟩) (nl + 1) cap) (l' := la ++ [x]) (by rw [List.length_append, HNL.out, rInt64_sn2]; exact HO.out) HG.out (fun g hg => by obtain rfl : gg = g := (by simpa [Value.ownBlock] using hg); exact HAT.out.imp id (fun e => Nat.le_of_eq e.symm))
        have hS2 : Src (wn.setCell ⟨qq, 1, none⟩ (.slice (some ⟨gg, 0, none⟩) (nl + 1) cap)) b (K + 6 + 4 * n + 2) := (((HS.out.alloc (.cells #[.int .i64 x] 2)).keep (fun g hg => HG.out.block g (by have := HS.out.lt; simp; omega) (fun e => by have := (H1.out.lt g e.symm).1; omega)))).setNew (by have := HM.out.di; omega) _ _
        have hT2 : Tch b (b + 1) w (wn.setCell ⟨qq, 1, none⟩ (.slice (some ⟨gg, 0, none⟩) (nl + 1) cap)) := (((HT.out.alloc_ (.cells #[.int .i64 x] 2)).grownNew HG.out (fun g hg => (H1.out.lt g hg).1))).setNew (by have := HM.out.di; omega) _ _
        replace HM := hide hM2
        replace HS := hide hS2
        replace HT := hide hT2
        clear hM2 hS2 hT2 c1 f1 HO HG HAT H1 hlo hdi
        generalize (wn.setCell ⟨qq, 1, none⟩ (.slice (some ⟨gg, 0, none⟩) (nl + 1) cap)) = wz at *
        clear hla
        go_wp2_with fail
        go_roundw
        case rel => exact ⟨n + 1, la ++ [x], x, k' - 1, _, by omega, rfl, by omega, by omega, by go_num, by omega, by omega, hide (by rw [List.length_append, HLA.out]; rfl), hide (stepsV_snoc HSV.out (by omega) (by omega)), HM, hide (HS.out.mono (by omega)), HT⟩
        case measure => first | (simp [intOf]; done) | (simp [intOf]; omega)
      · go_wp2_with fail
        refine (pick_any b (K + 6 + 4 * n + 2) 3 (by omega) (by omega) (by omega) _ HS.out).mono ?_
        rintro e w5 ⟨y2, rfl, y2a, y2b, S1, t1⟩
        have hs_w5 := t1.size
        replace HS := hide S1
        replace HT := hide (HT.out.trans t1)
        replace HM := hide (HM.out.tch t1 hlt)
        clear S1 t1
        obtain ⟨x', hx'⟩ : ∃ x' : Int, y2 - 1 = x' := ⟨_, rfl⟩
        have hx3 : -1 ≤ x' := by omega
        have hx4 : x' ≤ 1 := by omega
        have hmw : IntKind.i64.wrap (y2 - 1) = x' := by rw [hx']; exact IntWalk.i64_in _ (by omega)
        go_upto_region 8 with fail
        try rw [hmw]
        try rw [hx']
        clear hmw
        have hla : la.length ≤ 4096 := by have := HLA.out; omega
        obtain ⟨nl, hnl⟩ : ∃ nl, (la).length = nl := ⟨_, rfl⟩
        have H1 := hide (show (w5.alloc (.cells #[.int .i64 x'] 2)).ownsRow w.heap.size 2 1 va nl (rInt64 la) by rw [← hnl]; exact (HM.out.alloc _).oa)
        have HNL := hide hnl
        clear hnl
        have c1 := HM.out.ba 1 _ rfl
        have f1 := HM.out.fa 1
        have hnl2 : nl ≤ 4096 := by have := HNL.out; omega
        have hlo := HM.out.lt
        have hdi := HM.out.di
        go_upto_region 5 with (at_builtin; refine wpList_append_lies _ (by rfl) (.tmp 25) (.tmp 27) 25 (by rfl) w.heap.size 2 i0 (.int .i64 0) 1 8 Try.underlying25 I.out.1 I.out.2.1 I.out.2.2.1 I.out.2.2.2 rfl (by decide) va nl (rInt64 la) (by rfl) H1.out ⟨w5.heap.size, 0, none⟩ 1 1 [.int .i64 x'] (by rfl) rfl (cell_one_t _ _ _ _ rfl) (by simp [Value.oneCell']) (by decide) (by unfold maxLen; omega) (by omega) (by simp; omega) _ rfl ?_; intro gg cap wn hown' hgrow hat hlt'; have HO := hide hown'; have HG := hide hgrow; have HAT := hide hat; replace c1 := ((HM.out.alloc (.cells #[.int .i64 x'] 2)).cell hgrow).1; replace f1 := ((HM.out.alloc (.cells #[.int .i64 x'] 2)).cell hgrow).2; clear hown' hgrow hat hlt')
        have hM2 := (HM.out.alloc (.cells #[.int .i64 x'] 2)).steps (u := .slice (some ⟨gg, 0, none⟩) (nl + 1) cap) (l' := la ++ [x']) (by rw [List.length_append, HNL.out, rInt64_sn2]; exact HO.out) HG.out (fun g hg => by obtain rfl : gg = g := (by simpa [Value.ownBlock] using hg); exact HAT.out.imp id (fun e => Nat.le_of_eq e.symm))
        have hS2 : Src (wn.setCell ⟨qq, 1, none⟩ (.slice (some ⟨gg, 0, none⟩) (nl + 1) cap)) b (K + 6 + 4 * n + 2 + 2) := (((HS.out.alloc (.cells #[.int .i64 x'] 2)).keep (fun g hg => HG.out.block g (by have := HS.out.lt; simp; omega) (fun e => by have := (H1.out.lt g e.symm).1; omega)))).setNew (by have := HM.out.di; omega) _ _
        have hT2 : Tch b (b + 1) w (wn.setCell ⟨qq, 1, none⟩ (.slice (some ⟨gg, 0, none⟩) (nl + 1) cap)) := (((HT.out.alloc_ (.cells #[.int .i64 x'] 2)).grownNew HG.out (fun g hg => (H1.out.lt g hg).1))).setNew (by have := HM.out.di; omega) _ _
        replace HM := hide hM2
        replace HS := hide hS2
        replace HT := hide hT2
        clear hM2 hS2 hT2 c1 f1 HO HG HAT H1 hlo hdi
        generalize (wn.setCell ⟨qq, 1, none⟩ (.slice (some ⟨gg, 0, none⟩) (nl + 1) cap)) = wz at *
        clear hla
        go_wp2_with fail
        go_roundw
        case rel => exact ⟨n + 1, la ++ [x'], x', k' - 1, _, by omega, rfl, by omega, by omega, by go_num, by omega, by omega, hide (by rw [List.length_append, HLA.out]; rfl), hide (stepsV_snoc HSV.out (by omega) (by omega)), HM, hide (HS.out.mono (by omega)), HT⟩
        case measure => first | (simp [intOf]; done) | (simp [intOf]; omega)
    · have hk' : decide (0 < k') = false := by simpa using hk
      have c0 := HM.out.r1 0 _ rfl
      have c1 := HM.out.r1 1 _ rfl
      have d0 := HM.out.ba 0 _ rfl
      have d1 := HM.out.ba 1 _ rfl
      have e0 := HM.out.f1 0
      have e1 := HM.out.f1 1
      obtain ⟨A2, c2, hva, hnA, hmA, _⟩ := (Own.of_owns HM.out.oa).rd
      subst hva
      rw [HLA.out] at d1 HM
      go_wp2_with fail
      obtain ⟨WE, hWE⟩ : ∃ WE, ((wr.setCell ⟨w.heap.size, 0, none⟩ (.int .i64 st)).setCell ⟨w.heap.size, 1, none⟩ (.slice A2 n c2)) = WE := ⟨_, rfl⟩
      rw [hWE]
      have BE := (HM.out.r1.put 0 (.int .i64 st) (by simp)).put 1 (.slice A2 n c2) (by simp)
      rw [hWE] at BE
      have OE := owns_set (owns_set HM.out.oa (p := w.heap.size) (fun g hg => (HM.out.na g hg).1) 0 (.int .i64 st)) (p := w.heap.size) (fun g hg => (HM.out.na g hg).1) 1 (.slice A2 n c2)
      rw [hWE] at OE
      have SE := (HS.out.setNew (g := w.heap.size) hlt 0 (.int .i64 st)).setNew (g := w.heap.size) hlt 1 (.slice A2 n c2)
      rw [hWE] at SE
      have TE := (HT.out.setNew (g := w.heap.size) (Nat.le_refl _) 0 (.int .i64 st)).setNew (g := w.heap.size) (Nat.le_refl _) 1 (.slice A2 n c2)
      rw [hWE] at TE
      have q0 := BE 0 _ rfl
      have q1 := BE 1 _ rfl
      clear hWE c0 c1 d0 d1 e0 e1
      refine bodyPost_ret (v := .agg #[.int .i64 st, .slice A2 n c2]) (by simp [results, Try.results26, go_sem, q0, q1]) rfl ?_
      exact ⟨st, la, n, _, rfl, by omega, by omega, HSV.out, HLA.out, by omega, Own.of_owns (by rw [HLA.out] at OE; exact OE), SE.mono (by omega), TE⟩

open Go.RowKit
set_option linter.unusedVariables false
set_option linter.unusedSimpArgs false

set_option maxRecDepth 100000 in
set_option maxHeartbeats 2000000 in
theorem l16Bent_g (b K : Nat) (hK : K ≤ 49000) (w : World) (h : Src w b K) :
    Calls Try.prog 44 #[.pointer (some ⟨b, 0, none⟩)] w fun e w' => ∃ (st : Int) (l : List Int) (n : Nat) (v : Value), e = .returned (.agg #[.int .i64 st, v]) ∧ l.length = n ∧ n ≤ 300 ∧ Own w' w.heap.size w'.heap.size 2 1 v n (rInt64 l) ∧ Src w' b (K + 70) ∧ Tch b (b + 1) w w' := by
  obtain ⟨i0, hi0, hz0, hz1, hz2⟩ := info_parts infoInt64
  have I := hide (And.intro hi0 (And.intro hz0 (And.intro hz1 hz2)))
  clear hi0 hz0 hz1 hz2
  have hlt := h.lt
  obtain ⟨X, hX⟩ : ∃ X, w.alloc (.cells #[.int .i64 0, .slice none 0 0] 27) = X := ⟨_, rfl⟩
  have hsx : X.heap.size = w.heap.size + 1 := by rw [← hX]; simp
  have HS := hide (show Src X b K by rw [← hX]; exact h.alloc _)
  have HT := hide (show Tch b (b + 1) w X by rw [← hX]; exact (Tch.refl _ _ _).alloc_ _)
  have BR : Box X w.heap.size [.int .i64 0, .slice none 0 0] := by rw [← hX]; exact box_at _ _ _ _ rfl
  have FR : Fz X w.heap.size := by rw [← hX]; exact fz_at _ _ _ _ rfl
  have HX := hide hX
  clear hX h
  go_enter Try.func44, Try.ntmps44
  go_wp2_with fail
  rw [HX.out]
  refine (l16Draw_g b K (by omega) _ HS.out).mono ?_
  rintro e w1 ⟨st, la, n, va, rfl, st0, st1, hsv, hla, hn, ho, S1, t1⟩
  have hs_w1 := t1.size
  obtain ⟨Av, cv, rfl, _, _, _⟩ := ho.rd
  replace BR := BR.tch t1 (by omega) (by omega)
  replace FR := FR.tch t1 (by omega) (by omega)
  replace HS := hide S1
  replace HT := hide (HT.out.trans t1)
  have HLA := hide hla
  have HO0 := hide (show w1.ownsRow w.heap.size 2 1 (.slice Av n cv) la.length (rInt64 la) by rw [hla]; exact own_lo ho.1 (by omega))
  have hva0 : ∀ g, (Value.slice Av n cv).ownBlock = some g → g ≠ w.heap.size := fun g hg => by have := (ho.lt g hg).1; omega
  clear S1 t1 ho hsv hla HX
  obtain ⟨X2, hX2⟩ : ∃ X2, w1.alloc (.cells #[.int .i64 st, .slice Av n cv] 27) = X2 := ⟨_, rfl⟩
  have HM := hide (MoI.new BR FR (Nat.le_refl _) (by omega) HO0.out hva0 st hX2)
  go_upto_region 2 with fail
  try rw [hX2]
  replace HS := hide (show Src X2 b (K + 60) by rw [← hX2]; exact HS.out.alloc _)
  replace HT := hide (show Tch b (b + 1) w X2 by rw [← hX2]; exact HT.out.alloc_ _)
  have hsx2 : X2.heap.size = w1.heap.size + 1 := by rw [← hX2]; simp
  clear hX2 BR FR HO0 hva0
  obtain ⟨qq, hqq⟩ : ∃ qq, w1.heap.size = qq := ⟨_, rfl⟩
  try rw [hqq]
  rw [hqq] at HM
  go_wp2_with fail
  refine (pick_any b (K + 60) 20 (by omega) (by omega) (by omega) _ HS.out).mono ?_
  rintro e w2 ⟨p, rfl, pa, pb, S1, t1⟩
  have hs_w2 := t1.size
  replace HS := hide S1
  replace HT := hide (HT.out.trans t1)
  replace HM := hide (HM.out.tch t1 hlt)
  clear S1 t1
  by_cases h0 : p = 0
  · subst h0
    have HAM := hide (among_any b (K + 60 + 2) _ 4 4 w2.heap.size (w2.heap.size + 1) [-1, 0, 23, 24] (by omega) (by omega) (by omega) (w2.alloc (.cells #[.int .i64 (-1), .int .i64 (0), .int .i64 (23), .int .i64 (24)] 2)) (HS.out.alloc _) (rd_lit w2 #[.int .i64 (-1), .int .i64 (0), .int .i64 (23), .int .i64 (24)] 2 4 rfl) (by omega) (by simp))
    go_wp2_with fail
    refine HAM.out.mono ?_
    rintro e w3 ⟨px, rfl, _, S1, t0⟩
    have t1 := ((Tch.refl b (b + 1) w2).alloc_ _).trans t0
    have hs3 := t1.size
    replace HS := hide S1
    replace HT := hide (HT.out.trans t1)
    replace HM := hide (HM.out.tch t1 hlt)
    clear S1 t1 t0 HAM
    have c0 := HM.out.ba 0 _ rfl
    have f0 := HM.out.fa 0
    have hdi := HM.out.di
    go_upto_region 9 with fail
    replace HM := hide (HM.out.start px)
    replace HS := hide (HS.out.setNew (g := qq) (by omega) 0 (.int .i64 px))
    replace HT := hide (HT.out.setNew (g := qq) (by omega) 0 (.int .i64 px))
    clear c0 f0 hdi
    generalize (w3.setCell ⟨qq, 0, none⟩ (.int .i64 px)) = w4 at *
    have c0 := HM.out.r1 0 _ rfl
    have c1 := HM.out.r1 1 _ rfl
    have d0 := HM.out.ba 0 _ rfl
    have d1 := HM.out.ba 1 _ rfl
    have e0 := HM.out.f1 0
    have e1 := HM.out.f1 1
    obtain ⟨A2, c2, hva, hnA, hmA, _⟩ := (Own.of_owns HM.out.oa).rd
    injection hva with hv1 hv2 hv3
    clear hv2
    obtain rfl : A2 = Av := hv1.symm
    obtain rfl : c2 = cv := hv3.symm
    (try rw [HLA.out] at d1)
    (try rw [HLA.out] at HM)
    go_wp2_with fail
    obtain ⟨WE, hWE⟩ : ∃ WE, ((w4.setCell ⟨w.heap.size, 0, none⟩ (.int .i64 px)).setCell ⟨w.heap.size, 1, none⟩ (.slice A2 n c2)) = WE := ⟨_, rfl⟩
    rw [hWE]
    have BE := (HM.out.r1.put 0 (.int .i64 px) (by simp)).put 1 (.slice A2 n c2) (by simp)
    rw [hWE] at BE
    have OE := owns_set (owns_set HM.out.oa (p := w.heap.size) (fun g hg => (HM.out.na g hg).1) 0 (.int .i64 px)) (p := w.heap.size) (fun g hg => (HM.out.na g hg).1) 1 (.slice A2 n c2)
    rw [hWE] at OE
    have SE := (HS.out.setNew (g := w.heap.size) hlt 0 (.int .i64 px)).setNew (g := w.heap.size) hlt 1 (.slice A2 n c2)
    rw [hWE] at SE
    have TE := (HT.out.setNew (g := w.heap.size) (Nat.le_refl _) 0 (.int .i64 px)).setNew (g := w.heap.size) (Nat.le_refl _) 1 (.slice A2 n c2)
    rw [hWE] at TE
    have q0 := BE 0 _ rfl
    have q1 := BE 1 _ rfl
    clear hWE c0 c1 d0 d1 e0 e1
    refine bodyPost_ret (v := .agg #[.int .i64 px, .slice A2 n c2]) (by simp [results, Try.results44, go_sem, q0, q1]) rfl ?_
    exact ⟨_, la, n, _, rfl, HLA.out, by omega, Own.of_owns (by rw [HLA.out] at OE; exact OE), SE.mono (by omega), TE⟩
  by_cases h1 : p = 1
  · subst h1
    replace HS := hide HS.out.drew
    replace HT := hide HT.out.drew_
    replace HM := hide HM.out.drew
    go_upto_region 6 with fail
    refine wp_region_any (by kernel_rfl) ?_
    try (change wpAny _ _ _ _ _ _ _ (World.drew _))
    obtain ⟨wd, hwd⟩ : ∃ wd, w2.drew = wd := ⟨_, rfl⟩
    rw [hwd] at HS HT HM ⊢
    have hsd : w2.heap.size ≤ wd.heap.size := by rw [← hwd]; exact Nat.le_refl _
    clear hwd
    have HAM := hide (among_any b (K + 60 + 2) _ 4 4 wd.heap.size (wd.heap.size + 1) [-2, -1, 2, -9223372036854775808] (by omega) (by omega) (by omega) (wd.alloc (.cells #[.int .i64 (-2), .int .i64 (-1), .int .i64 (2), .int .i64 (-9223372036854775808)] 2)) (HS.out.alloc _) (rd_lit wd #[.int .i64 (-2), .int .i64 (-1), .int .i64 (2), .int .i64 (-9223372036854775808)] 2 4 rfl) (by omega) (by simp))
    have c1 := HM.out.ba 1 _ rfl
    have cA := fun o => (HM.out.alloc o).ba 1 _ rfl
    refine wpAny_take (i := 0) (v := ?_) rfl (by kernel_rfl) (by kernel_rfl) (by kernel_rfl) (fun _ _ _ h => h) (Or.inl ⟨by rfl, ?_⟩) ?_
    rotate_left
    · (intro w; go_simp; try (with_reducible rfl))
    (try simp only [Act.put, List.getElem_toArray, List.getElem_cons_succ, List.getElem_cons_zero, List.setIfInBounds_toArray, List.set_cons_succ, List.set_cons_zero])
    refine wpAny_take (i := 2) (v := ?_) rfl (by kernel_rfl) (by kernel_rfl) (by kernel_rfl) (fun _ _ _ h => h) (Or.inl ⟨by rfl, ?_⟩) ?_
    rotate_left
    · (intro w; go_simp; try (with_reducible rfl))
    (try simp only [Act.put, List.getElem_toArray, List.getElem_cons_succ, List.getElem_cons_zero, List.setIfInBounds_toArray, List.set_cons_succ, List.set_cons_zero])
    refine wpAny_ready (rs := [1, 3]) (by kernel_rfl) (by simp) ?_
    refine (AllReady.cons rfl (fun KQ hKQ => ?_) (AllReady.cons rfl (fun KQ hKQ => ?_) AllReady.nil))
    · go_simp
      refine hKQ _ _ ?_
      clear hKQ KQ
      (try simp only [Act.put, List.getElem_toArray, List.getElem_cons_succ, List.getElem_cons_zero, List.setIfInBounds_toArray, List.set_cons_succ, List.set_cons_zero])
      refine wpAny_ready (rs := [3]) (by kernel_rfl) (by simp) ?_
      refine (AllReady.cons rfl (fun KQ hKQ => ?_) AllReady.nil)
      go_simp
      refine hKQ _ _ ?_
      clear hKQ KQ
      (try simp only [Act.put, List.getElem_toArray, List.getElem_cons_succ, List.getElem_cons_zero, List.setIfInBounds_toArray, List.set_cons_succ, List.set_cons_zero])
      refine wpAny_ready (rs := [4]) (by kernel_rfl) (by simp) ?_
      refine (AllReady.cons rfl (fun KQ hKQ => ?_) AllReady.nil)
      go_simp
      refine HAM.out.mono ?_
      rintro e w3 ⟨px, rfl, _, S1, t0⟩
      have t1 := ((Tch.refl b (b + 1) wd).alloc_ (.cells #[.int .i64 (-2), .int .i64 (-1), .int .i64 (2), .int .i64 (-9223372036854775808)] 2)).trans t0
      have hs3 := t1.size
      replace HS := hide S1
      replace HT := hide (HT.out.trans t1)
      replace HM := hide (HM.out.tch t1 hlt)
      clear S1 t1 t0 HAM cA
      replace c1 := HM.out.ba 1 _ rfl
      have cA := fun o => (HM.out.alloc o).ba 1 _ rfl
      refine hKQ _ _ ?_
      clear hKQ KQ
      (try simp only [Act.put, List.getElem_toArray, List.getElem_cons_succ, List.getElem_cons_zero, List.setIfInBounds_toArray, List.set_cons_succ, List.set_cons_zero])
      refine wpAny_ready (rs := [5]) (by kernel_rfl) (by simp) ?_
      refine (AllReady.cons rfl (fun KQ hKQ => ?_) AllReady.nil)
      go_simp
      refine hKQ _ _ ?_
      clear hKQ KQ
      (try simp only [Act.put, List.getElem_toArray, List.getElem_cons_succ, List.getElem_cons_zero, List.setIfInBounds_toArray, List.set_cons_succ, List.set_cons_zero])
      refine wpAny_ready (rs := [6]) (by kernel_rfl) (by simp) ?_
      refine (AllReady.cons rfl (fun KQ hKQ => ?_) AllReady.nil)
      have H1 := hide (show (w3.alloc (.cells #[.int .i64 px] 2)).ownsRow w.heap.size 2 1 (.slice Av n cv) n (rInt64 la) by have q := (HM.out.alloc (.cells #[.int .i64 px] 2)).oa; rw [HLA.out] at q; exact q)
      have hdi := HM.out.di
      have hlo := HM.out.lt
      refine step_append_lies _ (by rfl) (.tmp 17) (.tmp 21) 25 (by rfl) w.heap.size 2 i0 (.int .i64 0) 1 8 Try.underlying25 I.out.1 I.out.2.1 I.out.2.2.1 I.out.2.2.2 rfl (by decide) (.slice Av n cv) n (rInt64 la) (by rfl) H1.out ⟨w3.heap.size, 0, none⟩ 1 1 [.int .i64 px] (by rfl) rfl (cell_one_t _ _ _ _ rfl) (by simp [Value.oneCell']) (by decide) (by unfold maxLen; omega) (by omega) (by simp; omega) _ rfl ?_
      intro gg cap wn hown' hgrow hat hlt'
      have HO := hide hown'
      have HG := hide hgrow
      have HAT := hide hat
      replace c1 := ((HM.out.alloc (.cells #[.int .i64 px] 2)).cell hgrow).1
      have f1 := ((HM.out.alloc (.cells #[.int .i64 px] 2)).cell hgrow).2
      clear hown' hgrow hat hlt' cA
      refine hKQ _ _ ?_
      clear hKQ KQ
      (try simp only [Act.put, List.getElem_toArray, List.getElem_cons_succ, List.getElem_cons_zero, List.setIfInBounds_toArray, List.set_cons_succ, List.set_cons_zero])
      refine wpAny_take (i := 7) (v := ?_) rfl (by kernel_rfl) (by kernel_rfl) (by kernel_rfl) (fun _ _ _ h => h) (Or.inl ⟨by rfl, ?_⟩) ?_
      rotate_left
      · (intro w; go_simp; try (with_reducible rfl))
      (try simp only [Act.put, List.getElem_toArray, List.getElem_cons_succ, List.getElem_cons_zero, List.setIfInBounds_toArray, List.set_cons_succ, List.set_cons_zero])
      refine wpAny_ready (rs := [8]) (by kernel_rfl) (by simp) ?_
      refine (AllReady.cons rfl (fun KQ hKQ => ?_) AllReady.nil)
      go_simp
      have hM2 := (HM.out.alloc (.cells #[.int .i64 px] 2)).steps (u := .slice (some ⟨gg, 0, none⟩) (n + 1) cap) (l' := la ++ [px]) (by rw [List.length_append, HLA.out, rInt64_sn2]; exact HO.out) HG.out (fun g hg => by obtain rfl : gg = g := (by simpa [Value.ownBlock] using hg); exact HAT.out.imp id (fun e => Nat.le_of_eq e.symm))
      have hS2 : Src (wn.setCell ⟨qq, 1, none⟩ (.slice (some ⟨gg, 0, none⟩) (n + 1) cap)) b (K + 60 + 2 + 2) := (((HS.out.alloc (.cells #[.int .i64 px] 2)).keep (fun g hg => HG.out.block g (by have := HS.out.lt; simp; omega) (fun e => by have := (H1.out.lt g e.symm).1; omega)))).setNew (by have := HM.out.di; omega) _ _
      have hT2 : Tch b (b + 1) w (wn.setCell ⟨qq, 1, none⟩ (.slice (some ⟨gg, 0, none⟩) (n + 1) cap)) := (((HT.out.alloc_ (.cells #[.int .i64 px] 2)).grownNew HG.out (fun g hg => (H1.out.lt g hg).1))).setNew (by have := HM.out.di; omega) _ _
      replace HM := hide hM2
      replace HS := hide hS2
      replace HT := hide hT2
      clear hM2 hS2 hT2 c1 f1 HO HG HAT H1 hlo
      refine hKQ _ _ ?_
      clear hKQ KQ
      (try simp only [Act.put, List.getElem_toArray, List.getElem_cons_succ, List.getElem_cons_zero, List.setIfInBounds_toArray, List.set_cons_succ, List.set_cons_zero])
      generalize (wn.setCell ⟨qq, 1, none⟩ (.slice (some ⟨gg, 0, none⟩) (n + 1) cap)) = w6 at *
      refine wpAny_done (by kernel_rfl) ?_ _
      replace HLA : Hid ((la ++ [px]).length = n + 1) := hide (by rw [List.length_append, HLA.out]; rfl)
      clear hdi
      have c0 := HM.out.r1 0 _ rfl
      have c1 := HM.out.r1 1 _ rfl
      have d0 := HM.out.ba 0 _ rfl
      have d1 := HM.out.ba 1 _ rfl
      have e0 := HM.out.f1 0
      have e1 := HM.out.f1 1
      obtain ⟨A2, c2, hva, hnA, hmA, _⟩ := (Own.of_owns HM.out.oa).rd
      injection hva with hv1 hv2 hv3
      clear hv2
      obtain rfl : A2 = (some ⟨gg, 0, none⟩) := hv1.symm
      obtain rfl : c2 = cap := hv3.symm
      (try rw [HLA.out] at d1)
      (try rw [HLA.out] at HM)
      go_wp2_with fail
      obtain ⟨WE, hWE⟩ : ∃ WE, ((w6.setCell ⟨w.heap.size, 0, none⟩ (.int .i64 st)).setCell ⟨w.heap.size, 1, none⟩ (.slice (some ⟨gg, 0, none⟩) (n + 1) c2)) = WE := ⟨_, rfl⟩
      rw [hWE]
      have BE := (HM.out.r1.put 0 (.int .i64 st) (by simp)).put 1 (.slice (some ⟨gg, 0, none⟩) (n + 1) c2) (by simp)
      rw [hWE] at BE
      have OE := owns_set (owns_set HM.out.oa (p := w.heap.size) (fun g hg => (HM.out.na g hg).1) 0 (.int .i64 st)) (p := w.heap.size) (fun g hg => (HM.out.na g hg).1) 1 (.slice (some ⟨gg, 0, none⟩) (n + 1) c2)
      rw [hWE] at OE
      have SE := (HS.out.setNew (g := w.heap.size) hlt 0 (.int .i64 st)).setNew (g := w.heap.size) hlt 1 (.slice (some ⟨gg, 0, none⟩) (n + 1) c2)
      rw [hWE] at SE
      have TE := (HT.out.setNew (g := w.heap.size) (Nat.le_refl _) 0 (.int .i64 st)).setNew (g := w.heap.size) (Nat.le_refl _) 1 (.slice (some ⟨gg, 0, none⟩) (n + 1) c2)
      rw [hWE] at TE
      have q0 := BE 0 _ rfl
      have q1 := BE 1 _ rfl
      clear hWE c0 c1 d0 d1 e0 e1
      refine bodyPost_ret (v := .agg #[.int .i64 st, .slice (some ⟨gg, 0, none⟩) (n + 1) c2]) (by simp [results, Try.results44, go_sem, q0, q1]) rfl ?_
      exact ⟨_, la ++ [px], (n + 1), _, rfl, HLA.out, by omega, Own.of_owns (by rw [HLA.out] at OE; exact OE), SE.mono (by omega), TE⟩
    · go_simp
      refine hKQ _ _ ?_
      clear hKQ KQ
      (try simp only [Act.put, List.getElem_toArray, List.getElem_cons_succ, List.getElem_cons_zero, List.setIfInBounds_toArray, List.set_cons_succ, List.set_cons_zero])
      refine wpAny_ready (rs := [1, 4]) (by kernel_rfl) (by simp) ?_
      refine (AllReady.cons rfl (fun KQ hKQ => ?_) (AllReady.cons rfl (fun KQ hKQ => ?_) AllReady.nil))
      · go_simp
        refine hKQ _ _ ?_
        clear hKQ KQ
        (try simp only [Act.put, List.getElem_toArray, List.getElem_cons_succ, List.getElem_cons_zero, List.setIfInBounds_toArray, List.set_cons_succ, List.set_cons_zero])
        refine wpAny_ready (rs := [4]) (by kernel_rfl) (by simp) ?_
        refine (AllReady.cons rfl (fun KQ hKQ => ?_) AllReady.nil)
        go_simp
        refine HAM.out.mono ?_
        rintro e w3 ⟨px, rfl, _, S1, t0⟩
        have t1 := ((Tch.refl b (b + 1) wd).alloc_ (.cells #[.int .i64 (-2), .int .i64 (-1), .int .i64 (2), .int .i64 (-9223372036854775808)] 2)).trans t0
        have hs3 := t1.size
        replace HS := hide S1
        replace HT := hide (HT.out.trans t1)
        replace HM := hide (HM.out.tch t1 hlt)
        clear S1 t1 t0 HAM cA
        replace c1 := HM.out.ba 1 _ rfl
        have cA := fun o => (HM.out.alloc o).ba 1 _ rfl
        refine hKQ _ _ ?_
        clear hKQ KQ
        (try simp only [Act.put, List.getElem_toArray, List.getElem_cons_succ, List.getElem_cons_zero, List.setIfInBounds_toArray, List.set_cons_succ, List.set_cons_zero])
        refine wpAny_ready (rs := [5]) (by kernel_rfl) (by simp) ?_
        refine (AllReady.cons rfl (fun KQ hKQ => ?_) AllReady.nil)
        go_simp
        refine hKQ _ _ ?_
        clear hKQ KQ
        (try simp only [Act.put, List.getElem_toArray, List.getElem_cons_succ, List.getElem_cons_zero, List.setIfInBounds_toArray, List.set_cons_succ, List.set_cons_zero])
        refine wpAny_ready (rs := [6]) (by kernel_rfl) (by simp) ?_
        refine (AllReady.cons rfl (fun KQ hKQ => ?_) AllReady.nil)
        have H1 := hide (show (w3.alloc (.cells #[.int .i64 px] 2)).ownsRow w.heap.size 2 1 (.slice Av n cv) n (rInt64 la) by have q := (HM.out.alloc (.cells #[.int .i64 px] 2)).oa; rw [HLA.out] at q; exact q)
        have hdi := HM.out.di
        have hlo := HM.out.lt
        refine step_append_lies _ (by rfl) (.tmp 17) (.tmp 21) 25 (by rfl) w.heap.size 2 i0 (.int .i64 0) 1 8 Try.underlying25 I.out.1 I.out.2.1 I.out.2.2.1 I.out.2.2.2 rfl (by decide) (.slice Av n cv) n (rInt64 la) (by rfl) H1.out ⟨w3.heap.size, 0, none⟩ 1 1 [.int .i64 px] (by rfl) rfl (cell_one_t _ _ _ _ rfl) (by simp [Value.oneCell']) (by decide) (by unfold maxLen; omega) (by omega) (by simp; omega) _ rfl ?_
        intro gg cap wn hown' hgrow hat hlt'
        have HO := hide hown'
        have HG := hide hgrow
        have HAT := hide hat
        replace c1 := ((HM.out.alloc (.cells #[.int .i64 px] 2)).cell hgrow).1
        have f1 := ((HM.out.alloc (.cells #[.int .i64 px] 2)).cell hgrow).2
        clear hown' hgrow hat hlt' cA
        refine hKQ _ _ ?_
        clear hKQ KQ
        (try simp only [Act.put, List.getElem_toArray, List.getElem_cons_succ, List.getElem_cons_zero, List.setIfInBounds_toArray, List.set_cons_succ, List.set_cons_zero])
        refine wpAny_take (i := 7) (v := ?_) rfl (by kernel_rfl) (by kernel_rfl) (by kernel_rfl) (fun _ _ _ h => h) (Or.inl ⟨by rfl, ?_⟩) ?_
        rotate_left
        · (intro w; go_simp; try (with_reducible rfl))
        (try simp only [Act.put, List.getElem_toArray, List.getElem_cons_succ, List.getElem_cons_zero, List.setIfInBounds_toArray, List.set_cons_succ, List.set_cons_zero])
        refine wpAny_ready (rs := [8]) (by kernel_rfl) (by simp) ?_
        refine (AllReady.cons rfl (fun KQ hKQ => ?_) AllReady.nil)
        go_simp
        have hM2 := (HM.out.alloc (.cells #[.int .i64 px] 2)).steps (u := .slice (some ⟨gg, 0, none⟩) (n + 1) cap) (l' := la ++ [px]) (by rw [List.length_append, HLA.out, rInt64_sn2]; exact HO.out) HG.out (fun g hg => by obtain rfl : gg = g := (by simpa [Value.ownBlock] using hg); exact HAT.out.imp id (fun e => Nat.le_of_eq e.symm))
        have hS2 : Src (wn.setCell ⟨qq, 1, none⟩ (.slice (some ⟨gg, 0, none⟩) (n + 1) cap)) b (K + 60 + 2 + 2) := (((HS.out.alloc (.cells #[.int .i64 px] 2)).keep (fun g hg => HG.out.block g (by have := HS.out.lt; simp; omega) (fun e => by have := (H1.out.lt g e.symm).1; omega)))).setNew (by have := HM.out.di; omega) _ _
        have hT2 : Tch b (b + 1) w (wn.setCell ⟨qq, 1, none⟩ (.slice (some ⟨gg, 0, none⟩) (n + 1) cap)) := (((HT.out.alloc_ (.cells #[.int .i64 px] 2)).grownNew HG.out (fun g hg => (H1.out.lt g hg).1))).setNew (by have := HM.out.di; omega) _ _
        replace HM := hide hM2
        replace HS := hide hS2
        replace HT := hide hT2
        clear hM2 hS2 hT2 c1 f1 HO HG HAT H1 hlo
        refine hKQ _ _ ?_
        clear hKQ KQ
        (try simp only [Act.put, List.getElem_toArray, List.getElem_cons_succ, List.getElem_cons_zero, List.setIfInBounds_toArray, List.set_cons_succ, List.set_cons_zero])
        generalize (wn.setCell ⟨qq, 1, none⟩ (.slice (some ⟨gg, 0, none⟩) (n + 1) cap)) = w6 at *
        refine wpAny_done (by kernel_rfl) ?_ _
        replace HLA : Hid ((la ++ [px]).length = n + 1) := hide (by rw [List.length_append, HLA.out]; rfl)
        clear hdi
        have c0 := HM.out.r1 0 _ rfl
        have c1 := HM.out.r1 1 _ rfl
        have d0 := HM.out.ba 0 _ rfl
        have d1 := HM.out.ba 1 _ rfl
        have e0 := HM.out.f1 0
        have e1 := HM.out.f1 1
        obtain ⟨A2, c2, hva, hnA, hmA, _⟩ := (Own.of_owns HM.out.oa).rd
        injection hva with hv1 hv2 hv3
        clear hv2
        obtain rfl : A2 = (some ⟨gg, 0, none⟩) := hv1.symm
        obtain rfl : c2 = cap := hv3.symm
        (try rw [HLA.out] at d1)
        (try rw [HLA.out] at HM)
        go_wp2_with fail
        obtain ⟨WE, hWE⟩ : ∃ WE, ((w6.setCell ⟨w.heap.size, 0, none⟩ (.int .i64 st)).setCell ⟨w.heap.size, 1, none⟩ (.slice (some ⟨gg, 0, none⟩) (n + 1) c2)) = WE := ⟨_, rfl⟩
        rw [hWE]
        have BE := (HM.out.r1.put 0 (.int .i64 st) (by simp)).put 1 (.slice (some ⟨gg, 0, none⟩) (n + 1) c2) (by simp)
        rw [hWE] at BE
        have OE := owns_set (owns_set HM.out.oa (p := w.heap.size) (fun g hg => (HM.out.na g hg).1) 0 (.int .i64 st)) (p := w.heap.size) (fun g hg => (HM.out.na g hg).1) 1 (.slice (some ⟨gg, 0, none⟩) (n + 1) c2)
        rw [hWE] at OE
        have SE := (HS.out.setNew (g := w.heap.size) hlt 0 (.int .i64 st)).setNew (g := w.heap.size) hlt 1 (.slice (some ⟨gg, 0, none⟩) (n + 1) c2)
        rw [hWE] at SE
        have TE := (HT.out.setNew (g := w.heap.size) (Nat.le_refl _) 0 (.int .i64 st)).setNew (g := w.heap.size) (Nat.le_refl _) 1 (.slice (some ⟨gg, 0, none⟩) (n + 1) c2)
        rw [hWE] at TE
        have q0 := BE 0 _ rfl
        have q1 := BE 1 _ rfl
        clear hWE c0 c1 d0 d1 e0 e1
        refine bodyPost_ret (v := .agg #[.int .i64 st, .slice (some ⟨gg, 0, none⟩) (n + 1) c2]) (by simp [results, Try.results44, go_sem, q0, q1]) rfl ?_
        exact ⟨_, la ++ [px], (n + 1), _, rfl, HLA.out, by omega, Own.of_owns (by rw [HLA.out] at OE; exact OE), SE.mono (by omega), TE⟩
      · go_simp
        refine HAM.out.mono ?_
        rintro e w3 ⟨px, rfl, _, S1, t0⟩
        have t1 := ((Tch.refl b (b + 1) wd).alloc_ (.cells #[.int .i64 (-2), .int .i64 (-1), .int .i64 (2), .int .i64 (-9223372036854775808)] 2)).trans t0
        have hs3 := t1.size
        replace HS := hide S1
        replace HT := hide (HT.out.trans t1)
        replace HM := hide (HM.out.tch t1 hlt)
        clear S1 t1 t0 HAM cA
        replace c1 := HM.out.ba 1 _ rfl
        have cA := fun o => (HM.out.alloc o).ba 1 _ rfl
        refine hKQ _ _ ?_
        clear hKQ KQ
        (try simp only [Act.put, List.getElem_toArray, List.getElem_cons_succ, List.getElem_cons_zero, List.setIfInBounds_toArray, List.set_cons_succ, List.set_cons_zero])
        refine wpAny_ready (rs := [1, 5]) (by kernel_rfl) (by simp) ?_
        refine (AllReady.cons rfl (fun KQ hKQ => ?_) (AllReady.cons rfl (fun KQ hKQ => ?_) AllReady.nil))
        · go_simp
          refine hKQ _ _ ?_
          clear hKQ KQ
          (try simp only [Act.put, List.getElem_toArray, List.getElem_cons_succ, List.getElem_cons_zero, List.setIfInBounds_toArray, List.set_cons_succ, List.set_cons_zero])
          refine wpAny_ready (rs := [5]) (by kernel_rfl) (by simp) ?_
          refine (AllReady.cons rfl (fun KQ hKQ => ?_) AllReady.nil)
          go_simp
          refine hKQ _ _ ?_
          clear hKQ KQ
          (try simp only [Act.put, List.getElem_toArray, List.getElem_cons_succ, List.getElem_cons_zero, List.setIfInBounds_toArray, List.set_cons_succ, List.set_cons_zero])
          refine wpAny_ready (rs := [6]) (by kernel_rfl) (by simp) ?_
          refine (AllReady.cons rfl (fun KQ hKQ => ?_) AllReady.nil)
          have H1 := hide (show (w3.alloc (.cells #[.int .i64 px] 2)).ownsRow w.heap.size 2 1 (.slice Av n cv) n (rInt64 la) by have q := (HM.out.alloc (.cells #[.int .i64 px] 2)).oa; rw [HLA.out] at q; exact q)
          have hdi := HM.out.di
          have hlo := HM.out.lt
          refine step_append_lies _ (by rfl) (.tmp 17) (.tmp 21) 25 (by rfl) w.heap.size 2 i0 (.int .i64 0) 1 8 Try.underlying25 I.out.1 I.out.2.1 I.out.2.2.1 I.out.2.2.2 rfl (by decide) (.slice Av n cv) n (rInt64 la) (by rfl) H1.out ⟨w3.heap.size, 0, none⟩ 1 1 [.int .i64 px] (by rfl) rfl (cell_one_t _ _ _ _ rfl) (by simp [Value.oneCell']) (by decide) (by unfold maxLen; omega) (by omega) (by simp; omega) _ rfl ?_
          intro gg cap wn hown' hgrow hat hlt'
          have HO := hide hown'
          have HG := hide hgrow
          have HAT := hide hat
          replace c1 := ((HM.out.alloc (.cells #[.int .i64 px] 2)).cell hgrow).1
          have f1 := ((HM.out.alloc (.cells #[.int .i64 px] 2)).cell hgrow).2
          clear hown' hgrow hat hlt' cA
          refine hKQ _ _ ?_
          clear hKQ KQ
          (try simp only [Act.put, List.getElem_toArray, List.getElem_cons_succ, List.getElem_cons_zero, List.setIfInBounds_toArray, List.set_cons_succ, List.set_cons_zero])
          refine wpAny_take (i := 7) (v := ?_) rfl (by kernel_rfl) (by kernel_rfl) (by kernel_rfl) (fun _ _ _ h => h) (Or.inl ⟨by rfl, ?_⟩) ?_
          rotate_left
          · (intro w; go_simp; try (with_reducible rfl))
          (try simp only [Act.put, List.getElem_toArray, List.getElem_cons_succ, List.getElem_cons_zero, List.setIfInBounds_toArray, List.set_cons_succ, List.set_cons_zero])
          refine wpAny_ready (rs := [8]) (by kernel_rfl) (by simp) ?_
          refine (AllReady.cons rfl (fun KQ hKQ => ?_) AllReady.nil)
          go_simp
          have hM2 := (HM.out.alloc (.cells #[.int .i64 px] 2)).steps (u := .slice (some ⟨gg, 0, none⟩) (n + 1) cap) (l' := la ++ [px]) (by rw [List.length_append, HLA.out, rInt64_sn2]; exact HO.out) HG.out (fun g hg => by obtain rfl : gg = g := (by simpa [Value.ownBlock] using hg); exact HAT.out.imp id (fun e => Nat.le_of_eq e.symm))
          have hS2 : Src (wn.setCell ⟨qq, 1, none⟩ (.slice (some ⟨gg, 0, none⟩) (n + 1) cap)) b (K + 60 + 2 + 2) := (((HS.out.alloc (.cells #[.int .i64 px] 2)).keep (fun g hg => HG.out.block g (by have := HS.out.lt; simp; omega) (fun e => by have := (H1.out.lt g e.symm).1; omega)))).setNew (by have := HM.out.di; omega) _ _
          have hT2 : Tch b (b + 1) w (wn.setCell ⟨qq, 1, none⟩ (.slice (some ⟨gg, 0, none⟩) (n + 1) cap)) := (((HT.out.alloc_ (.cells #[.int .i64 px] 2)).grownNew HG.out (fun g hg => (H1.out.lt g hg).1))).setNew (by have := HM.out.di; omega) _ _
          replace HM := hide hM2
          replace HS := hide hS2
          replace HT := hide hT2
          clear hM2 hS2 hT2 c1 f1 HO HG HAT H1 hlo
          refine hKQ _ _ ?_
          clear hKQ KQ
          (try simp only [Act.put, List.getElem_toArray, List.getElem_cons_succ, List.getElem_cons_zero, List.setIfInBounds_toArray, List.set_cons_succ, List.set_cons_zero])
          generalize (wn.setCell ⟨qq, 1, none⟩ (.slice (some ⟨gg, 0, none⟩) (n + 1) cap)) = w6 at *
          refine wpAny_done (by kernel_rfl) ?_ _
          replace HLA : Hid ((la ++ [px]).length = n + 1) := hide (by rw [List.length_append, HLA.out]; rfl)
          clear hdi
          have c0 := HM.out.r1 0 _ rfl
          have c1 := HM.out.r1 1 _ rfl
          have d0 := HM.out.ba 0 _ rfl
          have d1 := HM.out.ba 1 _ rfl
          have e0 := HM.out.f1 0
          have e1 := HM.out.f1 1
          obtain ⟨A2, c2, hva, hnA, hmA, _⟩ := (Own.of_owns HM.out.oa).rd
          injection hva with hv1 hv2 hv3
          clear hv2
          obtain rfl : A2 = (some ⟨gg, 0, none⟩) := hv1.symm
          obtain rfl : c2 = cap := hv3.symm
          (try rw [HLA.out] at d1)
          (try rw [HLA.out] at HM)
          go_wp2_with fail
          obtain ⟨WE, hWE⟩ : ∃ WE, ((w6.setCell ⟨w.heap.size, 0, none⟩ (.int .i64 st)).setCell ⟨w.heap.size, 1, none⟩ (.slice (some ⟨gg, 0, none⟩) (n + 1) c2)) = WE := ⟨_, rfl⟩
          rw [hWE]
          have BE := (HM.out.r1.put 0 (.int .i64 st) (by simp)).put 1 (.slice (some ⟨gg, 0, none⟩) (n + 1) c2) (by simp)
          rw [hWE] at BE
          have OE := owns_set (owns_set HM.out.oa (p := w.heap.size) (fun g hg => (HM.out.na g hg).1) 0 (.int .i64 st)) (p := w.heap.size) (fun g hg => (HM.out.na g hg).1) 1 (.slice (some ⟨gg, 0, none⟩) (n + 1) c2)
          rw [hWE] at OE
          have SE := (HS.out.setNew (g := w.heap.size) hlt 0 (.int .i64 st)).setNew (g := w.heap.size) hlt 1 (.slice (some ⟨gg, 0, none⟩) (n + 1) c2)
          rw [hWE] at SE
          have TE := (HT.out.setNew (g := w.heap.size) (Nat.le_refl _) 0 (.int .i64 st)).setNew (g := w.heap.size) (Nat.le_refl _) 1 (.slice (some ⟨gg, 0, none⟩) (n + 1) c2)
          rw [hWE] at TE
          have q0 := BE 0 _ rfl
          have q1 := BE 1 _ rfl
          clear hWE c0 c1 d0 d1 e0 e1
          refine bodyPost_ret (v := .agg #[.int .i64 st, .slice (some ⟨gg, 0, none⟩) (n + 1) c2]) (by simp [results, Try.results44, go_sem, q0, q1]) rfl ?_
          exact ⟨_, la ++ [px], (n + 1), _, rfl, HLA.out, by omega, Own.of_owns (by rw [HLA.out] at OE; exact OE), SE.mono (by omega), TE⟩
        · go_simp
          refine hKQ _ _ ?_
          clear hKQ KQ
          (try simp only [Act.put, List.getElem_toArray, List.getElem_cons_succ, List.getElem_cons_zero, List.setIfInBounds_toArray, List.set_cons_succ, List.set_cons_zero])
          refine wpAny_ready (rs := [1]) (by kernel_rfl) (by simp) ?_
          refine (AllReady.cons rfl (fun KQ hKQ => ?_) AllReady.nil)
          go_simp
          refine hKQ _ _ ?_
          clear hKQ KQ
          (try simp only [Act.put, List.getElem_toArray, List.getElem_cons_succ, List.getElem_cons_zero, List.setIfInBounds_toArray, List.set_cons_succ, List.set_cons_zero])
          refine wpAny_ready (rs := [6]) (by kernel_rfl) (by simp) ?_
          refine (AllReady.cons rfl (fun KQ hKQ => ?_) AllReady.nil)
          have H1 := hide (show (w3.alloc (.cells #[.int .i64 px] 2)).ownsRow w.heap.size 2 1 (.slice Av n cv) n (rInt64 la) by have q := (HM.out.alloc (.cells #[.int .i64 px] 2)).oa; rw [HLA.out] at q; exact q)
          have hdi := HM.out.di
          have hlo := HM.out.lt
          refine step_append_lies _ (by rfl) (.tmp 17) (.tmp 21) 25 (by rfl) w.heap.size 2 i0 (.int .i64 0) 1 8 Try.underlying25 I.out.1 I.out.2.1 I.out.2.2.1 I.out.2.2.2 rfl (by decide) (.slice Av n cv) n (rInt64 la) (by rfl) H1.out ⟨w3.heap.size, 0, none⟩ 1 1 [.int .i64 px] (by rfl) rfl (cell_one_t _ _ _ _ rfl) (by simp [Value.oneCell']) (by decide) (by unfold maxLen; omega) (by omega) (by simp; omega) _ rfl ?_
          intro gg cap wn hown' hgrow hat hlt'
          have HO := hide hown'
          have HG := hide hgrow
          have HAT := hide hat
          replace c1 := ((HM.out.alloc (.cells #[.int .i64 px] 2)).cell hgrow).1
          have f1 := ((HM.out.alloc (.cells #[.int .i64 px] 2)).cell hgrow).2
          clear hown' hgrow hat hlt' cA
          refine hKQ _ _ ?_
          clear hKQ KQ
          (try simp only [Act.put, List.getElem_toArray, List.getElem_cons_succ, List.getElem_cons_zero, List.setIfInBounds_toArray, List.set_cons_succ, List.set_cons_zero])
          refine wpAny_take (i := 7) (v := ?_) rfl (by kernel_rfl) (by kernel_rfl) (by kernel_rfl) (fun _ _ _ h => h) (Or.inl ⟨by rfl, ?_⟩) ?_
          rotate_left
          · (intro w; go_simp; try (with_reducible rfl))
          (try simp only [Act.put, List.getElem_toArray, List.getElem_cons_succ, List.getElem_cons_zero, List.setIfInBounds_toArray, List.set_cons_succ, List.set_cons_zero])
          refine wpAny_ready (rs := [8]) (by kernel_rfl) (by simp) ?_
          refine (AllReady.cons rfl (fun KQ hKQ => ?_) AllReady.nil)
          go_simp
          have hM2 := (HM.out.alloc (.cells #[.int .i64 px] 2)).steps (u := .slice (some ⟨gg, 0, none⟩) (n + 1) cap) (l' := la ++ [px]) (by rw [List.length_append, HLA.out, rInt64_sn2]; exact HO.out) HG.out (fun g hg => by obtain rfl : gg = g := (by simpa [Value.ownBlock] using hg); exact HAT.out.imp id (fun e => Nat.le_of_eq e.symm))
          have hS2 : Src (wn.setCell ⟨qq, 1, none⟩ (.slice (some ⟨gg, 0, none⟩) (n + 1) cap)) b (K + 60 + 2 + 2) := (((HS.out.alloc (.cells #[.int .i64 px] 2)).keep (fun g hg => HG.out.block g (by have := HS.out.lt; simp; omega) (fun e => by have := (H1.out.lt g e.symm).1; omega)))).setNew (by have := HM.out.di; omega) _ _
          have hT2 : Tch b (b + 1) w (wn.setCell ⟨qq, 1, none⟩ (.slice (some ⟨gg, 0, none⟩) (n + 1) cap)) := (((HT.out.alloc_ (.cells #[.int .i64 px] 2)).grownNew HG.out (fun g hg => (H1.out.lt g hg).1))).setNew (by have := HM.out.di; omega) _ _
          replace HM := hide hM2
          replace HS := hide hS2
          replace HT := hide hT2
          clear hM2 hS2 hT2 c1 f1 HO HG HAT H1 hlo
          refine hKQ _ _ ?_
          clear hKQ KQ
          (try simp only [Act.put, List.getElem_toArray, List.getElem_cons_succ, List.getElem_cons_zero, List.setIfInBounds_toArray, List.set_cons_succ, List.set_cons_zero])
          generalize (wn.setCell ⟨qq, 1, none⟩ (.slice (some ⟨gg, 0, none⟩) (n + 1) cap)) = w6 at *
          refine wpAny_done (by kernel_rfl) ?_ _
          replace HLA : Hid ((la ++ [px]).length = n + 1) := hide (by rw [List.length_append, HLA.out]; rfl)
          clear hdi
          have c0 := HM.out.r1 0 _ rfl
          have c1 := HM.out.r1 1 _ rfl
          have d0 := HM.out.ba 0 _ rfl
          have d1 := HM.out.ba 1 _ rfl
          have e0 := HM.out.f1 0
          have e1 := HM.out.f1 1
          obtain ⟨A2, c2, hva, hnA, hmA, _⟩ := (Own.of_owns HM.out.oa).rd
          injection hva with hv1 hv2 hv3
          clear hv2
          obtain rfl : A2 = (some ⟨gg, 0, none⟩) := hv1.symm
          obtain rfl : c2 = cap := hv3.symm
          (try rw [HLA.out] at d1)
          (try rw [HLA.out] at HM)
          go_wp2_with fail
          obtain ⟨WE, hWE⟩ : ∃ WE, ((w6.setCell ⟨w.heap.size, 0, none⟩ (.int .i64 st)).setCell ⟨w.heap.size, 1, none⟩ (.slice (some ⟨gg, 0, none⟩) (n + 1) c2)) = WE := ⟨_, rfl⟩
          rw [hWE]
          have BE := (HM.out.r1.put 0 (.int .i64 st) (by simp)).put 1 (.slice (some ⟨gg, 0, none⟩) (n + 1) c2) (by simp)
          rw [hWE] at BE
          have OE := owns_set (owns_set HM.out.oa (p := w.heap.size) (fun g hg => (HM.out.na g hg).1) 0 (.int .i64 st)) (p := w.heap.size) (fun g hg => (HM.out.na g hg).1) 1 (.slice (some ⟨gg, 0, none⟩) (n + 1) c2)
          rw [hWE] at OE
          have SE := (HS.out.setNew (g := w.heap.size) hlt 0 (.int .i64 st)).setNew (g := w.heap.size) hlt 1 (.slice (some ⟨gg, 0, none⟩) (n + 1) c2)
          rw [hWE] at SE
          have TE := (HT.out.setNew (g := w.heap.size) (Nat.le_refl _) 0 (.int .i64 st)).setNew (g := w.heap.size) (Nat.le_refl _) 1 (.slice (some ⟨gg, 0, none⟩) (n + 1) c2)
          rw [hWE] at TE
          have q0 := BE 0 _ rfl
          have q1 := BE 1 _ rfl
          clear hWE c0 c1 d0 d1 e0 e1
          refine bodyPost_ret (v := .agg #[.int .i64 st, .slice (some ⟨gg, 0, none⟩) (n + 1) c2]) (by simp [results, Try.results44, go_sem, q0, q1]) rfl ?_
          exact ⟨_, la ++ [px], (n + 1), _, rfl, HLA.out, by omega, Own.of_owns (by rw [HLA.out] at OE; exact OE), SE.mono (by omega), TE⟩
  by_cases h2 : p = 2
  · subst h2
    go_upto_region 8 with fail
    go_wp2_with fail
    refine (pick_any b (K + 60 + 2) 2 (by omega) (by omega) (by omega) _ HS.out).mono ?_
    rintro e w3 ⟨pz, rfl, pza, pzb, S1, t1⟩
    have hs_w3 := t1.size
    replace HS := hide S1
    replace HT := hide (HT.out.trans t1)
    replace HM := hide (HM.out.tch t1 hlt)
    clear S1 t1
    by_cases hz : pz = 0
    · subst hz
      have c1 := HM.out.ba 1 _ rfl
      have f1 := HM.out.fa 1
      have hdi := HM.out.di
      have hlo := HM.out.lt
      go_upto_region 9 with (at_make; refine wpList_make_full _ rfl (.tmp 28) (.tmp 28) 25 rfl w.heap.size 2 i0 (.int .i64 0) 1 Try.underlying25 I.out.1 I.out.2.1 I.out.2.2.1 .i64 .i64 _ _ 200 rfl rfl (by simp [IntKind.wrap]; try omega) (by simp [IntKind.wrap]; try omega) (by rw [I.out.2.2.2]; omega) (by unfold maxLen; omega) (by omega) ?_; intro wm hown hg; have hg' : w3.grownBy wm (Value.slice Av n cv).ownBlock := ⟨hg.os, hg.tape, hg.output, hg.size, fun k hk _ => hg.block k hk (by simp)⟩; have HO := hide hown; have HG := hide hg; have HG2 := hide hg'; replace c1 := (HM.out.cell hg').1; replace f1 := (HM.out.cell hg').2; clear hown hg hg')
      have hO2 := HO.out
      rw [made_zero] at hO2
      have hM2 := HM.out.steps (u := .slice (some ⟨w3.heap.size, 0, none⟩) 200 200) (l' := List.replicate 200 0) (by rw [List.length_replicate]; exact hO2) HG2.out (fun g hg => by obtain rfl : w3.heap.size = g := (by simpa [Value.ownBlock] using hg); exact .inr (Nat.le_refl _))
      have hS2 : Src (wm.setCell ⟨qq, 1, none⟩ (.slice (some ⟨w3.heap.size, 0, none⟩) 200 200)) b (K + 60 + 2 + 2) := ((HS.out.keep (fun g hg => HG.out.block g (by have := HS.out.lt; omega) (by simp)))).setNew (by omega) _ _
      have hT2 : Tch b (b + 1) w (wm.setCell ⟨qq, 1, none⟩ (.slice (some ⟨w3.heap.size, 0, none⟩) 200 200)) := ((HT.out.grownNew HG.out (fun g hg => by simp at hg))).setNew (by omega) _ _
      replace HM := hide hM2
      replace HS := hide hS2
      replace HT := hide hT2
      replace HLA : Hid ((List.replicate 200 (0 : Int)).length = 200) := hide (by rw [List.length_replicate])
      clear hM2 hS2 hT2 hO2 c1 f1 HO HG HG2 hlo hdi
      generalize (wm.setCell ⟨qq, 1, none⟩ (.slice (some ⟨w3.heap.size, 0, none⟩) 200 200)) = w6 at *
      have c0 := HM.out.r1 0 _ rfl
      have c1 := HM.out.r1 1 _ rfl
      have d0 := HM.out.ba 0 _ rfl
      have d1 := HM.out.ba 1 _ rfl
      have e0 := HM.out.f1 0
      have e1 := HM.out.f1 1
      obtain ⟨A2, c2, hva, hnA, hmA, _⟩ := (Own.of_owns HM.out.oa).rd
      injection hva with hv1 hv2 hv3
      clear hv2
      obtain rfl : A2 = (some ⟨w3.heap.size, 0, none⟩) := hv1.symm
      obtain rfl : c2 = 200 := hv3.symm
      (try rw [HLA.out] at d1)
      (try rw [HLA.out] at HM)
      go_wp2_with fail
      obtain ⟨WE, hWE⟩ : ∃ WE, ((w6.setCell ⟨w.heap.size, 0, none⟩ (.int .i64 st)).setCell ⟨w.heap.size, 1, none⟩ (.slice (some ⟨w3.heap.size, 0, none⟩) 200 200)) = WE := ⟨_, rfl⟩
      rw [hWE]
      have BE := (HM.out.r1.put 0 (.int .i64 st) (by simp)).put 1 (.slice (some ⟨w3.heap.size, 0, none⟩) 200 200) (by simp)
      rw [hWE] at BE
      have OE := owns_set (owns_set HM.out.oa (p := w.heap.size) (fun g hg => (HM.out.na g hg).1) 0 (.int .i64 st)) (p := w.heap.size) (fun g hg => (HM.out.na g hg).1) 1 (.slice (some ⟨w3.heap.size, 0, none⟩) 200 200)
      rw [hWE] at OE
      have SE := (HS.out.setNew (g := w.heap.size) hlt 0 (.int .i64 st)).setNew (g := w.heap.size) hlt 1 (.slice (some ⟨w3.heap.size, 0, none⟩) 200 200)
      rw [hWE] at SE
      have TE := (HT.out.setNew (g := w.heap.size) (Nat.le_refl _) 0 (.int .i64 st)).setNew (g := w.heap.size) (Nat.le_refl _) 1 (.slice (some ⟨w3.heap.size, 0, none⟩) 200 200)
      rw [hWE] at TE
      have q0 := BE 0 _ rfl
      have q1 := BE 1 _ rfl
      clear hWE c0 c1 d0 d1 e0 e1
      refine bodyPost_ret (v := .agg #[.int .i64 st, .slice (some ⟨w3.heap.size, 0, none⟩) 200 200]) (by simp [results, Try.results44, go_sem, q0, q1]) rfl ?_
      exact ⟨_, (List.replicate 200 0), 200, _, rfl, HLA.out, by omega, Own.of_owns (by rw [HLA.out] at OE; exact OE), SE.mono (by omega), TE⟩
    · obtain rfl : pz = 1 := by omega
      have c1 := HM.out.ba 1 _ rfl
      have f1 := HM.out.fa 1
      have hdi := HM.out.di
      have hlo := HM.out.lt
      go_upto_region 9 with (at_make; refine wpList_make_full _ rfl (.tmp 28) (.tmp 28) 25 rfl w.heap.size 2 i0 (.int .i64 0) 1 Try.underlying25 I.out.1 I.out.2.1 I.out.2.2.1 .i64 .i64 _ _ 201 rfl rfl (by simp [IntKind.wrap]; try omega) (by simp [IntKind.wrap]; try omega) (by rw [I.out.2.2.2]; omega) (by unfold maxLen; omega) (by omega) ?_; intro wm hown hg; have hg' : w3.grownBy wm (Value.slice Av n cv).ownBlock := ⟨hg.os, hg.tape, hg.output, hg.size, fun k hk _ => hg.block k hk (by simp)⟩; have HO := hide hown; have HG := hide hg; have HG2 := hide hg'; replace c1 := (HM.out.cell hg').1; replace f1 := (HM.out.cell hg').2; clear hown hg hg')
      have hO2 := HO.out
      rw [made_zero] at hO2
      have hM2 := HM.out.steps (u := .slice (some ⟨w3.heap.size, 0, none⟩) 201 201) (l' := List.replicate 201 0) (by rw [List.length_replicate]; exact hO2) HG2.out (fun g hg => by obtain rfl : w3.heap.size = g := (by simpa [Value.ownBlock] using hg); exact .inr (Nat.le_refl _))
      have hS2 : Src (wm.setCell ⟨qq, 1, none⟩ (.slice (some ⟨w3.heap.size, 0, none⟩) 201 201)) b (K + 60 + 2 + 2) := ((HS.out.keep (fun g hg => HG.out.block g (by have := HS.out.lt; omega) (by simp)))).setNew (by omega) _ _
      have hT2 : Tch b (b + 1) w (wm.setCell ⟨qq, 1, none⟩ (.slice (some ⟨w3.heap.size, 0, none⟩) 201 201)) := ((HT.out.grownNew HG.out (fun g hg => by simp at hg))).setNew (by omega) _ _
      replace HM := hide hM2
      replace HS := hide hS2
      replace HT := hide hT2
      replace HLA : Hid ((List.replicate 201 (0 : Int)).length = 201) := hide (by rw [List.length_replicate])
      clear hM2 hS2 hT2 hO2 c1 f1 HO HG HG2 hlo hdi
      generalize (wm.setCell ⟨qq, 1, none⟩ (.slice (some ⟨w3.heap.size, 0, none⟩) 201 201)) = w6 at *
      have c0 := HM.out.r1 0 _ rfl
      have c1 := HM.out.r1 1 _ rfl
      have d0 := HM.out.ba 0 _ rfl
      have d1 := HM.out.ba 1 _ rfl
      have e0 := HM.out.f1 0
      have e1 := HM.out.f1 1
      obtain ⟨A2, c2, hva, hnA, hmA, _⟩ := (Own.of_owns HM.out.oa).rd
      injection hva with hv1 hv2 hv3
      clear hv2
      obtain rfl : A2 = (some ⟨w3.heap.size, 0, none⟩) := hv1.symm
      obtain rfl : c2 = 201 := hv3.symm
      (try rw [HLA.out] at d1)
      (try rw [HLA.out] at HM)
      go_wp2_with fail
      obtain ⟨WE, hWE⟩ : ∃ WE, ((w6.setCell ⟨w.heap.size, 0, none⟩ (.int .i64 st)).setCell ⟨w.heap.size, 1, none⟩ (.slice (some ⟨w3.heap.size, 0, none⟩) 201 201)) = WE := ⟨_, rfl⟩
      rw [hWE]
      have BE := (HM.out.r1.put 0 (.int .i64 st) (by simp)).put 1 (.slice (some ⟨w3.heap.size, 0, none⟩) 201 201) (by simp)
      rw [hWE] at BE
      have OE := owns_set (owns_set HM.out.oa (p := w.heap.size) (fun g hg => (HM.out.na g hg).1) 0 (.int .i64 st)) (p := w.heap.size) (fun g hg => (HM.out.na g hg).1) 1 (.slice (some ⟨w3.heap.size, 0, none⟩) 201 201)
      rw [hWE] at OE
      have SE := (HS.out.setNew (g := w.heap.size) hlt 0 (.int .i64 st)).setNew (g := w.heap.size) hlt 1 (.slice (some ⟨w3.heap.size, 0, none⟩) 201 201)
      rw [hWE] at SE
      have TE := (HT.out.setNew (g := w.heap.size) (Nat.le_refl _) 0 (.int .i64 st)).setNew (g := w.heap.size) (Nat.le_refl _) 1 (.slice (some ⟨w3.heap.size, 0, none⟩) 201 201)
      rw [hWE] at TE
      have q0 := BE 0 _ rfl
      have q1 := BE 1 _ rfl
      clear hWE c0 c1 d0 d1 e0 e1
      refine bodyPost_ret (v := .agg #[.int .i64 st, .slice (some ⟨w3.heap.size, 0, none⟩) 201 201]) (by simp [results, Try.results44, go_sem, q0, q1]) rfl ?_
      exact ⟨_, (List.replicate 201 0), 201, _, rfl, HLA.out, by omega, Own.of_owns (by rw [HLA.out] at OE; exact OE), SE.mono (by omega), TE⟩
  · have n0 : (p == 0) = false := by simpa using h0
    have n1 : (p == 1) = false := by simpa using h1
    have n2 : (p == 2) = false := by simpa using h2
    go_upto_region 9 with fail
    have c0 := HM.out.r1 0 _ rfl
    have c1 := HM.out.r1 1 _ rfl
    have d0 := HM.out.ba 0 _ rfl
    have d1 := HM.out.ba 1 _ rfl
    have e0 := HM.out.f1 0
    have e1 := HM.out.f1 1
    obtain ⟨A2, c2, hva, hnA, hmA, _⟩ := (Own.of_owns HM.out.oa).rd
    injection hva with hv1 hv2 hv3
    clear hv2
    obtain rfl : A2 = Av := hv1.symm
    obtain rfl : c2 = cv := hv3.symm
    (try rw [HLA.out] at d1)
    (try rw [HLA.out] at HM)
    go_wp2_with fail
    obtain ⟨WE, hWE⟩ : ∃ WE, ((w2.setCell ⟨w.heap.size, 0, none⟩ (.int .i64 st)).setCell ⟨w.heap.size, 1, none⟩ (.slice A2 n c2)) = WE := ⟨_, rfl⟩
    rw [hWE]
    have BE := (HM.out.r1.put 0 (.int .i64 st) (by simp)).put 1 (.slice A2 n c2) (by simp)
    rw [hWE] at BE
    have OE := owns_set (owns_set HM.out.oa (p := w.heap.size) (fun g hg => (HM.out.na g hg).1) 0 (.int .i64 st)) (p := w.heap.size) (fun g hg => (HM.out.na g hg).1) 1 (.slice A2 n c2)
    rw [hWE] at OE
    have SE := (HS.out.setNew (g := w.heap.size) hlt 0 (.int .i64 st)).setNew (g := w.heap.size) hlt 1 (.slice A2 n c2)
    rw [hWE] at SE
    have TE := (HT.out.setNew (g := w.heap.size) (Nat.le_refl _) 0 (.int .i64 st)).setNew (g := w.heap.size) (Nat.le_refl _) 1 (.slice A2 n c2)
    rw [hWE] at TE
    have q0 := BE 0 _ rfl
    have q1 := BE 1 _ rfl
    clear hWE c0 c1 d0 d1 e0 e1
    refine bodyPost_ret (v := .agg #[.int .i64 st, .slice A2 n c2]) (by simp [results, Try.results44, go_sem, q0, q1]) rfl ?_
    exact ⟨_, la, n, _, rfl, HLA.out, by omega, Own.of_owns (by rw [HLA.out] at OE; exact OE), SE.mono (by omega), TE⟩

end Go.Proofs.Ytoklcjpokffocaa
