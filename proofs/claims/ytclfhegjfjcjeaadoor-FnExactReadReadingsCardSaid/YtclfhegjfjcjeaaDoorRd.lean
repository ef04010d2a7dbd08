/-
  ReadingsText: the reference's and the program's. No condition but those that each theorem names.
-/
import Derived.Test.YtclfhegjfjcjeaaDoorJn
import Derived.Test.YtclfhegjfjcjeaaDoorReadOk
namespace Go.Proofs.YtclfhegjfjcjeaaDoor
open Go.RowKit
set_option linter.unusedVariables false
set_option linter.unusedSimpArgs false

/-- The text of a reading, of the first k readings. -/
def rdT (p : Int × Int) : List UInt8 := Lib.itoa p.1 ++ [61] ++ Lib.itoa p.2
def rdsT (l : List (Int × Int)) : Nat → List UInt8
  | 0 => []
  | k + 1 => (if k = 0 then [] else rdsT l k ++ [32]) ++ rdT (l.getD k (0, 0))
theorem rdsT_join (l : List (Int × Int)) : ∀ k, k ≤ l.length → rdsT l k = Lib.join ((l.take k).map rdT) [32]
  | 0, _ => by simp [rdsT, Lib.join_nil]
  | k + 1, hk => by
    have ih := rdsT_join l k (by omega)
    have hkl : k < l.length := by omega
    rw [rdsT, show l.getD k (0, 0) = l[k] by simp [List.getD, hkl], List.take_succ_eq_append_getElem hkl, List.map_append]
    cases k with
    | zero => simp [Lib.join_one]
    | succ k =>
      rw [if_neg (by omega), ih]
      match l, hkl with
      | x :: r, hkl =>
        simp only [List.take_succ_cons, List.map_cons, List.cons_append, List.getElem_cons_succ]
        rw [Lib.join_cons, Lib.join_cons]
        simp [Lib.joinTail, List.append_assoc]
theorem rdT_len {p : Int × Int} (h0 : -9223372036854775808 ≤ p.1) (h1 : p.1 ≤ 9223372036854775807) (h2 : -9223372036854775808 ≤ p.2) (h3 : p.2 ≤ 9223372036854775807) : (rdT p).length ≤ 43 := by
  have := itoa_le h0 h1
  have := itoa_le h2 h3
  simp [rdT]; omega
def rdsS (l : List (Int × Int)) : ByteArray := if validR l = true then bstr (rdsT l l.length) else ⟨#[]⟩
theorem validR_at {l : List (Int × Int)} (h : validR l = true) {k : Nat} (hk : k < l.length) : (0 ≤ l[k].1 ∧ l[k].1 ≤ 1000000) ∧ (0 ≤ l[k].2 ∧ l[k].2 ≤ 600) := by
  unfold validR at h
  rw [Bool.and_eq_true, List.all_eq_true] at h
  have := h.1 k (List.mem_range.2 hk)
  unfold okR at this
  rw [show l.getD k (0, 0) = l[k] by simp [List.getD, hk]] at this
  simp only [Bool.and_eq_true] at this
  first | exact ⟨inR_true this.1.1, inR_true this.1.2⟩ | exact ⟨inR_true this.1, inR_true this.2.1⟩
theorem validR_len {l : List (Int × Int)} (h : validR l = true) : l.length ≤ 200 := by
  unfold validR at h
  rw [Bool.and_eq_true] at h
  simpa using h.2
theorem rdsT_len {l : List (Int × Int)} (h : validR l = true) : ∀ k, k ≤ l.length → (rdsT l k).length ≤ 44 * k
  | 0, _ => by simp [rdsT]
  | k + 1, hk => by
    have ih := rdsT_len h k (by omega)
    have hkl : k < l.length := by omega
    obtain ⟨⟨a1, a2⟩, a3, a4⟩ := validR_at h hkl
    have := rdT_len (p := l[k]) (by omega) (by omega) (by omega) (by omega)
    rw [rdsT, show l.getD k (0, 0) = l[k] by simp [List.getD, hkl]]
    split <;> simp <;> omega
theorem rdsT_sn {l : List (Int × Int)} {k : Nat} (hk : k < l.length) : rdsT l (k + 1) = (if k = 0 then [] else rdsT l k ++ [32]) ++ rdT l[k] := by
  rw [rdsT, show l.getD k (0, 0) = l[k] by simp [List.getD, hk]]
theorem str_bstr (n : Int) : str n = bstr (Lib.itoa n) := rfl
theorem one_at8 (w : World) (v : Value) (T : TypeId) : ∀ (j : Nat) (u : Value), [v][j]? = some u → (w.alloc (.cells #[v] T)).cell? ((⟨w.heap.size, 0, none⟩ : Addr).add j) = some u := by
  intro j u hu
  rw [Go.WideShapes.add_plain, Nat.zero_add, new_cell]
  simpa using hu

set_option maxRecDepth 100000 in
set_option maxHeartbeats 2000000 in
theorem implReadingsText_any (A : Option Addr) (n c lo hi : Nat) (l : List (Int × Int)) (hn : n ≤ 1048576) (w : World) (hl : l.length = n) (h : Rd w lo hi 2 A n (rReading l)) (hhi : hi ≤ w.heap.size) (ht : Tb w) :
    Calls Tryd.prog 16 #[.slice A n c] w fun e w' => e = .returned (.string (rdsS l)) ∧ Below w.heap.size w w' := by
  have HL := hide hl
  have H2 := hide h
  clear hl h
  by_cases e1 : validR l = true
  · skip
    have HV := hide e1
    have HLN := validR_len e1
    rw [HL.out] at HLN
    have E1 := hide e1
    clear e1
    obtain ⟨i0, hi0, hz0, hz1, hz2⟩ := info_parts infoStr
    have I := hide (And.intro hi0 (And.intro hz0 (And.intro hz1 hz2)))
    clear hi0 hz0 hz1 hz2
    go_enter Tryd.func16, Tryd.ntmps16
    go_wp2_with fail
    refine (ValidReadings_any A n c lo hi l hn _ HL.out H2.out hhi).mono ?_
    rintro e w0 ⟨rfl, hb0⟩
    have hs0 := hb0.size
    rw [E1.out]
    replace ht := ht.below hb0 (Nat.le_refl _)
    have H3 := hide (H2.out.below hb0 hhi)
    clear H2
    go_wp2_with fail
    go_loopw [3, 11] (fun ov ii wr => ∃ k : Nat, k ≤ n ∧ ii = .int .i64 k ∧ wr.ownsRow w0.heap.size 9 1 ov k (strs ((l.take k).map rdT)) ∧ Tb wr ∧ Below w0.heap.size w0 wr) (fun _ ii _ => n - (intOf ii).toNat)
    case atStart => exact ⟨0, by omega, rfl, World.ownsRow_nil _ _ _ _, ht, Below.refl _ _⟩
    have ht0 := hide ht
    case round =>
      clear ht
      obtain ⟨k, hk, rfl, ho, ht, hbr⟩ := hrel
      have hsz := hbr.size
      by_cases hlt : k < n
      · skip
        have hil : k < l.length := by rw [HL.out]; exact hlt
        obtain ⟨⟨p0, p1⟩, p2, p3⟩ := validR_at HV.out hil
        obtain ⟨b, off, rfl, hb1, hb2, hcl⟩ := H3.out.2 (by omega)
        have c0 := hcl (k * 2) _ (rReading_at l k hil).1
        have c1 := hcl (k * 2 + 1) _ (rReading_at l k hil).2
        rw [← Nat.add_assoc] at c1
        replace c0 := (hbr.cell (p := ⟨b, off + k * 2, none⟩) (by show b < _; omega)).trans c0
        replace c1 := (hbr.cell (p := ⟨b, off + k * 2 + 1, none⟩) (by show b < _; omega)).trans c1
        have hbw : b < wr.heap.size := by omega
        have HSN : Hid ((l.take (k + 1)).map rdT = (l.take k).map rdT ++ [rdT l[k]]) := hide (by rw [List.take_succ_eq_append_getElem hil, List.map_append]; rfl)
        clear hcl
        obtain ⟨x, hx⟩ : ∃ x, l[k].1 = x := ⟨_, rfl⟩
        obtain ⟨y, hy⟩ : ∃ y, l[k].2 = y := ⟨_, rfl⟩
        have hxy : l[k] = (x, y) := by rw [← hx, ← hy]
        rw [hx] at c0 p0 p1
        rw [hy] at c1 p2 p3
        rw [hxy] at HSN
        clear hx hy hxy
        have HO := hide ho
        clear ho
        go_wp2_with fail
        obtain ⟨W1, hW1⟩ : ∃ W1 : World, wr.alloc (.cells #[.int .i64 x, .int .i64 y] 33) = W1 := ⟨_, rfl⟩
        rw [hW1]
        have d0 : W1.cell? ⟨wr.heap.size, 0, none⟩ = some (.int .i64 x) := by rw [← hW1]; exact new_cell _ _ _ 0
        have d1 : W1.cell? ⟨wr.heap.size, 1, none⟩ = some (.int .i64 y) := by rw [← hW1]; exact new_cell _ _ _ 1
        have hbw1 : Below wr.heap.size wr W1 := by rw [← hW1]; exact (Below.refl _ _).alloc (Nat.le_refl _) _
        have hz1 : W1.heap.size = wr.heap.size + 1 := by rw [← hW1]; simp
        have HT := hide (ht.below hbw1 (Nat.le_refl _)).drew
        have HO1 := hide (owns_below HO.out hbw1)
        clear hW1 c0 c1
        obtain ⟨s0, hs0⟩ : ∃ s, str x = s := ⟨_, rfl⟩
        have z0 : s0.size ≤ 21 := by rw [← hs0]; exact str_size (by omega) (by omega)
        obtain ⟨s1, hs1⟩ : ∃ s, str y = s := ⟨_, rfl⟩
        have z1 : s1.size ≤ 21 := by rw [← hs1]; exact str_size (by omega) (by omega)
        obtain ⟨t1, ht1⟩ : ∃ t, s0 ++ ⟨#[61]⟩ = t := ⟨_, rfl⟩
        have zt1 : t1.size ≤ 22 := by rw [← ht1, ByteArray.size_append]; have e1 : (⟨#[61]⟩ : ByteArray).size = 1 := rfl; omega
        obtain ⟨t2, ht2⟩ : ∃ t, t1 ++ s1 = t := ⟨_, rfl⟩
        have zt2 : t2.size ≤ 43 := by rw [← ht2, ByteArray.size_append]; omega
        have HT2 : Hid (t2 = bstr (rdT (x, y))) := hide (by rw [← ht2, ← ht1, ← hs0, ← hs1, str_bstr, str_bstr]; show bstr _ ++ bstr [61] ++ bstr _ = _; rw [str_cat, str_cat]; rfl)
        have zt3 : 1 ≤ t2.size := by rw [HT2.out, bstr_size]; simp [rdT]; omega
        have nz1 : ¬ 9223372036854775807 ≤ s0.size := by omega
        have ny1 : ¬ 9223372036854775807 < s0.size + 1 := by omega
        have nz2 : ¬ 9223372036854775807 < t1.size + s1.size := by omega
        have HS0 := hide hs0
        have HS1 := hide hs1
        clear hs0 hs1
        refine wp_region_held_drew (S := fun W : World => W.cell? ⟨wr.heap.size, 0, none⟩ = some (.int .i64 x) ∧ W.cell? ⟨wr.heap.size, 1, none⟩ = some (.int .i64 y)) (by kernel_rfl) (⟨d0, d1⟩) (fun hHeld => ?_)
        try simp only [Array.replicate, List.replicate]
        refine wpAnyH_take (i := 0) (v := ?_) rfl (by kernel_rfl) (by kernel_rfl) (by kernel_rfl) (fun _ _ _ h => h) (Or.inl ⟨by rfl, ?_⟩) (by assumption) ?_
        rotate_left
        · (intro w hSw; (try dsimp only at hSw); go_simp; try (with_reducible rfl))
        try simp only [Act.put, List.getElem_toArray, List.getElem_cons_succ, List.getElem_cons_zero, List.setIfInBounds_toArray, List.set_cons_succ, List.set_cons_zero]
        refine wpAnyH_take (i := 1) (v := ?_) rfl (by kernel_rfl) (by kernel_rfl) (by kernel_rfl) (fun _ _ _ h => h) (Or.inl ⟨by rfl, ?_⟩) (by assumption) ?_
        rotate_left
        · (intro w hSw; (try dsimp only at hSw); go_simp; try (with_reducible rfl))
        try simp only [Act.put, List.getElem_toArray, List.getElem_cons_succ, List.getElem_cons_zero, List.setIfInBounds_toArray, List.set_cons_succ, List.set_cons_zero]
        refine wpAnyH_take (i := 2) (v := ?_) rfl (by kernel_rfl) (by kernel_rfl) (by kernel_rfl) (fun _ _ _ h => h) (Or.inl ⟨by rfl, ?_⟩) (by assumption) ?_
        rotate_left
        · (intro w hSw; (try dsimp only at hSw); go_simp; try (with_reducible rfl))
        try simp only [Act.put, List.getElem_toArray, List.getElem_cons_succ, List.getElem_cons_zero, List.setIfInBounds_toArray, List.set_cons_succ, List.set_cons_zero]
        refine wpAnyH_take (i := 5) (v := ?_) rfl (by kernel_rfl) (by kernel_rfl) (by kernel_rfl) (fun _ _ _ h => h) (Or.inl ⟨by rfl, ?_⟩) (by assumption) ?_
        rotate_left
        · (intro w hSw; (try dsimp only at hSw); go_simp; try (with_reducible rfl))
        try simp only [Act.put, List.getElem_toArray, List.getElem_cons_succ, List.getElem_cons_zero, List.setIfInBounds_toArray, List.set_cons_succ, List.set_cons_zero]
        refine wpAnyH_take (i := 6) (v := ?_) rfl (by kernel_rfl) (by kernel_rfl) (by kernel_rfl) (fun _ _ _ h => h) (Or.inl ⟨by rfl, ?_⟩) (by assumption) ?_
        rotate_left
        · (intro w hSw; (try dsimp only at hSw); go_simp; try (with_reducible rfl))
        try simp only [Act.put, List.getElem_toArray, List.getElem_cons_succ, List.getElem_cons_zero, List.setIfInBounds_toArray, List.set_cons_succ, List.set_cons_zero]
        refine wpAnyH_ready (rs := [3]) (by kernel_rfl) (by simp) ?_
        refine AllReadyH.cons rfl (fun K hK => ?_) AllReadyH.nil
        go_simp
        (go_at_call 26; with_reducible refine (decimal_is (by omega) (by omega) HS0.out HT.out).mono ?_)
        rintro e wa ⟨rfl, hqa⟩
        replace hqa : Below W1.heap.size W1 wa := (Joins.below_draws _ _ 1 : Below W1.heap.size W1 (World.drew W1)).trans hqa
        have hza := hqa.size
        have ea0 := (hqa.cell (p := ⟨wr.heap.size, 0, none⟩) (by show wr.heap.size < W1.heap.size; omega)).trans d0
        have ea1 := (hqa.cell (p := ⟨wr.heap.size, 1, none⟩) (by show wr.heap.size < W1.heap.size; omega)).trans d1
        have HTA := hide (Tb.below (w := W1) HT.out hqa (Nat.le_refl _))
        refine hK.out _ _ (⟨ea0, ea1⟩) (fun hHeld2 => ?_)
        clear hK K hHeld
        have hHeld := hHeld2
        clear hHeld2
        try simp only [Act.put, List.getElem_toArray, List.getElem_cons_succ, List.getElem_cons_zero, List.setIfInBounds_toArray, List.set_cons_succ, List.set_cons_zero]
        refine wpAnyH_take (i := 4) (v := ?_) rfl (by kernel_rfl) (by kernel_rfl) (by kernel_rfl) (fun _ _ _ h => h) (Or.inl ⟨by rfl, ?_⟩) (by assumption) ?_
        rotate_left
        · (intro w hSw; (try dsimp only at hSw); go_simp; try (with_reducible rfl))
        try simp only [Act.put, List.getElem_toArray, List.getElem_cons_succ, List.getElem_cons_zero, List.setIfInBounds_toArray, List.set_cons_succ, List.set_cons_zero]
        refine wpAnyH_ready (rs := [7]) (by kernel_rfl) (by simp) ?_
        refine AllReadyH.cons rfl (fun K hK => ?_) AllReadyH.nil
        go_simp
        (go_at_call 26; with_reducible refine (decimal_is (by omega) (by omega) HS1.out HTA.out).mono ?_)
        rintro e wb ⟨rfl, hqb⟩
        have hzb := hqb.size
        have eb0 := (hqb.cell (p := ⟨wr.heap.size, 0, none⟩) (by show wr.heap.size < wa.heap.size; omega)).trans ea0
        have eb1 := (hqb.cell (p := ⟨wr.heap.size, 1, none⟩) (by show wr.heap.size < wa.heap.size; omega)).trans ea1
        have HTB := hide (HTA.out.below hqb (Nat.le_refl _))
        have hbab : Below wr.heap.size wr wb := (hbw1.trans (hqa.mono (by omega))).trans (hqb.mono (by omega))
        have HOB := hide (owns_below HO.out hbab)
        have hbzz : Below w0.heap.size w0 wb := hbr.trans (hbab.mono hsz)
        refine hK.out _ _ (⟨eb0, eb1⟩) (fun hHeld2 => ?_)
        clear hK K hHeld
        have hHeld := hHeld2
        clear hHeld2
        try simp only [Act.put, List.getElem_toArray, List.getElem_cons_succ, List.getElem_cons_zero, List.setIfInBounds_toArray, List.set_cons_succ, List.set_cons_zero]
        refine wpAnyH_take (i := 8) (v := ?_) rfl (by kernel_rfl) (by kernel_rfl) (by kernel_rfl) (fun _ _ _ h => h) (Or.inl ⟨by rfl, ?_⟩) (by assumption) ?_
        rotate_left
        · (intro w hSw; (try dsimp only at hSw); go_simp; try (with_reducible rfl))
        try simp only [Act.put, List.getElem_toArray, List.getElem_cons_succ, List.getElem_cons_zero, List.setIfInBounds_toArray, List.set_cons_succ, List.set_cons_zero]
        refine wpAnyH_ready (rs := [9]) (by kernel_rfl) (by simp) ?_
        refine AllReadyH.cons rfl (fun K hK => ?_) AllReadyH.nil
        go_simp
        refine hK.out _ _ (⟨(World.cell?_alloc_lt wb _ ⟨wr.heap.size, 0, none⟩ (by show wr.heap.size < wb.heap.size; omega)).trans eb0, (World.cell?_alloc_lt wb _ ⟨wr.heap.size, 1, none⟩ (by show wr.heap.size < wb.heap.size; omega)).trans eb1⟩) (fun hHeld2 => ?_)
        clear hK K hHeld
        have hHeld := hHeld2
        clear hHeld2
        try simp only [Act.put, List.getElem_toArray, List.getElem_cons_succ, List.getElem_cons_zero, List.setIfInBounds_toArray, List.set_cons_succ, List.set_cons_zero]
        refine wpAnyH_ready (rs := [10]) (by kernel_rfl) (by simp) ?_
        refine AllReadyH.cons rfl (fun K hK => ?_) AllReadyH.nil
        refine step_append_own _ (by rfl) _ _ _ (by rfl) w0.heap.size 9 i0 (.string ⟨#[]⟩) 1 16 Tryd.underlying28 I.out.1 I.out.2.1 I.out.2.2.1 I.out.2.2.2 rfl (by decide) _ k _ (by rfl) (HOB.out.alloc _) ⟨wb.heap.size, 0, none⟩ 1 1 [.string t2] (by rfl) (by rfl) (one_at8 _ _ _) (by simp [Value.oneCell']) (by unfold maxLen; omega) (by omega) (by simp; omega) ?_
        intro v' wn hown' hgrow
        have hgs := hgrow.size
        have hbn : Below w0.heap.size w0 wn := (hbzz.alloc hbzz.size _).grown hgrow (by simp; omega) (fun g hg => (HOB.out.lt g hg).1)
        have hkp : wn.heap[wr.heap.size]? = wb.heap[wr.heap.size]? := (hgrow.block wr.heap.size (by simp; omega) (fun e => by have := (HO.out.lt _ e.symm).2; omega)).trans (Below.block ((Below.refl _ _).alloc (Nat.le_refl _) _ : Below wb.heap.size wb _) wr.heap.size (by omega))
        have en0 := (World.cell?_of_block (a := ⟨wr.heap.size, 0, none⟩) hkp).trans eb0
        have en1 := (World.cell?_of_block (a := ⟨wr.heap.size, 1, none⟩) hkp).trans eb1
        refine hK.out _ _ ⟨en0, en1⟩ (fun hHeld2 => ?_)
        clear hK K hHeld
        have hHeld := hHeld2
        clear hHeld2
        try simp only [Act.put, List.getElem_toArray, List.getElem_cons_succ, List.getElem_cons_zero, List.setIfInBounds_toArray, List.set_cons_succ, List.set_cons_zero]
        refine wpAnyH_take (i := 11) (v := ?_) rfl (by kernel_rfl) (by kernel_rfl) (by kernel_rfl) (fun _ _ _ h => h) (Or.inl ⟨by rfl, ?_⟩) (by assumption) ?_
        rotate_left
        · (intro w hSw; (try dsimp only at hSw); go_simp; try (with_reducible rfl))
        try simp only [Act.put, List.getElem_toArray, List.getElem_cons_succ, List.getElem_cons_zero, List.setIfInBounds_toArray, List.set_cons_succ, List.set_cons_zero]
        refine wpAnyH_done (by kernel_rfl) ?_ _
        have HE : Hid (strs ((l.take (k + 1)).map rdT) = strs ((l.take k).map rdT) ++ [.string t2]) := hide (by rw [HSN.out, strs_sn, HT2.out])
        have HOW : Hid (wn.ownsRow w0.heap.size 9 1 v' (k + 1) (strs ((l.take (k + 1)).map rdT))) := hide (by rw [HE.out]; exact hown')
        have HTN : Hid (Tb wn) := hide (ht0.out.below hbn (Nat.le_refl _))
        clear hown'
        go_wp2_with fail
        go_roundw
        case rel => exact ⟨k + 1, by omega, by go_num, HOW.out, HTN.out, hbn⟩
        case measure => simp [intOf]; omega
      · obtain rfl : k = n := by omega
        have hlm : ((l.take k).map rdT).length = k := by rw [List.length_map, List.length_take, HL.out]; omega
        have hlj : (Lib.join ((l.take k).map rdT) [32]).length ≤ 140737488355328 := by rw [← rdsT_join l k (by rw [HL.out]; exact Nat.le_refl _)]; have := rdsT_len HV.out k (by rw [HL.out]; exact Nat.le_refl _); omega
        have E : Hid (bstr (Lib.join ((l.take k).map rdT) [32]) = rdsS l) := hide (by unfold rdsS; rw [if_pos HV.out, ← rdsT_join l k (by rw [HL.out]; exact Nat.le_refl _), HL.out])
        have HLM := hide hlm
        have HLJ := hide hlj
        have HO := hide ho
        clear hlm hlj ho
        generalize (l.take k).map rdT = LL at *
        go_wp2_with fail
        refine (join_is HO.out HLM.out (by omega) HLJ.out).mono ?_
        rintro e w9 ⟨rfl, hb9⟩
        have hbz := hb0.trans ((hbr.trans (hb9.mono hsz)).mono hs0)
        go_wp2_with fail
        go_ret
        exact ⟨retstr E.out, hbz⟩
  · have e1 : validR l = false := by simpa using e1
    have E : Hid (rdsS l = ⟨#[]⟩) := hide (by unfold rdsS; rw [e1]; rfl)
    go_enter Tryd.func16, Tryd.ntmps16
    go_wp2_with fail
    refine (ValidReadings_any A n c lo hi l hn _ HL.out H2.out hhi).mono ?_
    rintro e w1 ⟨rfl, hb1⟩
    rw [e1]
    go_wp2_with fail
    go_ret
    exact ⟨retstr E.out.symm, hb1⟩

end Go.Proofs.YtclfhegjfjcjeaaDoor
