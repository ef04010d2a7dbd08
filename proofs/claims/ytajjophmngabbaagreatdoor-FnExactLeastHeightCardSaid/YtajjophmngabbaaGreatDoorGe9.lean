/-
  LeastHeight, the reference's. No condition but those that each theorem names.
-/
import Derived.Test.YtajjophmngabbaaGreatDoorGe8
import Derived.Test.YtajjophmngabbaaGreatDoorGh
import Derived.BigRegion
namespace Go.Proofs.YtajjophmngabbaaGreatDoor
open Go.RowKit
set_option linter.unusedVariables false
set_option linter.unusedSimpArgs false

theorem cdL_zero {l : List Crn} {i D : Int} (h : cdL l i D = 0) : siteB l = true ∧ inR i 0 ((l.length : Int) - 1) = true ∧ inR D 0 1000 = true := by
  unfold cdL at h
  by_cases e : siteB l = true
  · rw [if_pos e] at h
    by_cases e2 : (inR i 0 ((l.length : Int) - 1) && inR D 0 1000) = true
    · rw [Bool.and_eq_true] at e2; exact ⟨e, e2⟩
    · rw [if_neg e2] at h; omega
  · rw [if_neg e] at h; omega
theorem SiH.put {w : World} {bs b off i : Nat} {l : List Crn} {h : Int} (k : SiH w bs b off l i h) (hi : i < l.length) (hne : bs ≠ b) (h' : Int) : SiH (w.setCell ⟨b, off + i * 7 + 3, none⟩ (.int .i64 h')) bs b off l i h' := by
  obtain ⟨k0, ⟨c, k1⟩, k2⟩ := k
  refine ⟨by simpa [World.setCell] using k0, ⟨c, (World.cell?_setCell_far _ _ _ _ (fun e => hne e.symm)).trans k1⟩, fun j hj => ?_⟩
  have hq := k2 j hj
  have ho : ∀ q, q ≠ off + i * 7 + 3 → (w.setCell ⟨b, off + i * 7 + 3, none⟩ (.int .i64 h')).cell? ⟨b, q, none⟩ = w.cell? ⟨b, q, none⟩ := fun q hq => World.cell?_setCell_other (w := w) (a := ⟨b, off + i * 7 + 3, none⟩) (b := ⟨b, q, none⟩) (v := .int .i64 h') (by intro e; injection e with _ e2; omega)
  obtain ⟨q0, q1, q2, q3, q4, q5⟩ := hq
  refine ⟨by simpa [World.setCell] using q0, (ho _ (by omega)).trans q1, (ho _ (by omega)).trans q2, ?_, (ho _ (by omega)).trans q4, (ho _ (by omega)).trans q5⟩
  by_cases e : j = i
  · subst e
    rw [if_pos rfl]
    exact World.cell?_setCell_same (w := w) (a := ⟨b, off + j * 7 + 3, none⟩) (v := .int .i64 h') q3
  · rw [if_neg e] at q3 ⊢
    exact (ho _ (by omega)).trans q3
theorem SiH.of {w : World} {bs lo hi n c m : Nat} {A : Option Addr} {own : Bool} {l : List Crn} (hbs : bs < w.heap.size) (hs : w.cell? ⟨bs, 0, none⟩ = some (.slice A n c)) (hr : RdC w lo hi own A n l) (hhi : hi ≤ w.heap.size) (hm : m < l.length) : ∃ b off, A = some ⟨b, off, none⟩ ∧ b < hi ∧ SiH w bs b off l m (l[m]).h := by
  obtain ⟨b, off, hA, h1, h2, h3⟩ := hr.2 (by have := hr.length; omega)
  refine ⟨b, off, hA, h2, hbs, ⟨c, by rw [hs, hA, hr.length]⟩, fun k hk => ?_⟩
  obtain ⟨Ai, ci, hc, _⟩ := h3 k hk
  have e : (if k = m then (l[m]).h else l[k].h) = l[k].h := by
    split
    · rename_i e; subst e; rfl
    · rfl
  rw [e]
  exact ⟨by omega, hc 1 _ rfl, hc 2 _ rfl, hc 3 _ rfl, hc 4 _ rfl, hc 5 _ rfl⟩
theorem SiH.copy {w : World} {bs g n c m : Nat} {l : List Crn} (hl : l.length = n) (hbs : bs < w.heap.size) (hs : w.cell? ⟨bs, 0, none⟩ = some (.slice (some ⟨g, 0, none⟩) n c)) (hm : m < l.length) (h : ∀ k (hk : k < l.length), NmC w g (k * 7) l[k] l[k].h) : SiH w bs g 0 l m (l[m]).h := by
  refine ⟨hbs, ⟨c, by rw [hs, hl]⟩, fun k hk => ?_⟩
  have e : (if k = m then (l[m]).h else l[k].h) = l[k].h := by
    split
    · rename_i e; subst e; rfl
    · rfl
  rw [e, Nat.zero_add]
  exact h k hk
theorem ret_lh {l : List Crn} {i D a c : Int} {e : Ending} (he : e = .returned (.tuple #[.int .i64 a, .int .i64 c])) (h : LhR l i D a c) : ∃ a' c', e = .returned (.tuple #[.int .i64 a', .int .i64 c']) ∧ LhR l i D a' c' := ⟨a, c, he, h⟩
theorem rI_at {w : World} {lo hi n : Nat} {A : Option Addr} {C : List Int} (h : Rd w lo hi 1 A n (rInt64 C)) (hn : 0 < n) : ∃ b o, A = some ⟨b, o, none⟩ ∧ lo ≤ b ∧ b < hi ∧ ∀ k c, C[k]? = some c → w.cell? ⟨b, o + k, none⟩ = some (.int .i64 c) := by
  obtain ⟨b, o, hA, h1, h2, h3⟩ := h.2 hn
  refine ⟨b, o, hA, h1, h2, fun k c hk => h3 k _ ?_⟩
  obtain ⟨hlt, he⟩ := List.getElem?_eq_some_iff.1 hk
  have e := rInt64_at C k hlt
  rw [Nat.mul_one] at e
  rw [e, he]

set_option maxRecDepth 100000 in
set_option maxHeartbeats 4000000 in
theorem specLeastHeight_any (A : Option Addr) (n c lo hi : Nat) (own : Bool) (l : List Crn) (hn : n ≤ 1048576) (hch : ∀ p ∈ l, p.ch.length ≤ 1048576) (hnm : ∀ p ∈ l, p.nm.size ≤ maxLen) (w : World) (h : RdC w lo hi own A n l) (hhi : hi ≤ w.heap.size) (i D : Int) :
    Calls Tryz.prog 5 #[.agg #[.slice A n c], .int .i64 i, .int .i64 D] w fun e w' => ∃ a c', e = .returned (.tuple #[.int .i64 a, .int .i64 c']) ∧ LhR l i D a c' ∧ Below w.heap.size w w' := by
  have HCH := hide hch
  have HNM := hide hnm
  have HLEN := hide h.length
  obtain ⟨W0, hW0⟩ : ∃ W0 : World, (w.alloc (.cells #[.slice A n c] 30)) = W0 := ⟨_, rfl⟩
  have hb0 : Below w.heap.size w W0 := by rw [← hW0]; exact (Below.refl _ _).alloc (Nat.le_refl _) _
  have hz0 : W0.heap.size = w.heap.size + 1 := by rw [← hW0]; simp
  have HC0 : Hid (W0.cell? ⟨w.heap.size, 0, none⟩ = some (.slice A n c)) := hide (by rw [← hW0]; exact new_cell _ _ _ 0)
  have HW0 := hide hW0
  have HR0 := hide (h.below hb0 hhi)
  clear hW0 hch hnm h
  by_cases hz : cdL l i D = 0
  · obtain ⟨e1, e2, e3⟩ := cdL_zero hz
    obtain ⟨i0, i1⟩ := inR_true e2
    obtain ⟨d0, d1⟩ := inR_true e3
    have hl6 := (siteB_cr e1).2.2
    rw [HLEN.out] at i1 hl6
    obtain ⟨m, rfl⟩ : ∃ m : Nat, i = (m : Int) := ⟨i.toNat, by omega⟩
    have hml : m < l.length := by rw [HLEN.out]; omega
    have hmn : (m : Int) < (n : Int) := by omega
    have HE1 := hide e1
    have HZ := hide hz
    have HML := hide hml
    clear e1 e2 e3 hz
    go_enter Tryz.func5, Tryz.ntmps5
    go_wp2_with fail
    rw [HW0.out]
    refine (l22Crane_any w.heap.size 0 A n c lo hi own l hn HCH.out HNM.out _ m D (by omega) HC0.out HR0.out (by omega)).mono ?_
    rintro e w1 ⟨rfl, hb1⟩
    have hs1 := hb1.size
    rw [HZ.out]
    have hbz := hb0.trans (hb1.mono (by omega))
    have HC1 := hide ((hb1.cell (p := ⟨w.heap.size, 0, none⟩) (by show w.heap.size < _; omega)).trans HC0.out)
    have HR1 := hide (HR0.out.below hb1 (by omega))
    clear hb1
    go_wp2_with fail
    refine (l04Copy_any HE1.out (by omega) HC1.out HR1.out (by omega)).mono ?_
    rintro e w2 ⟨g, cg, rfl, hg1, hg2, hnm, hfz, hb2⟩
    have hs2 := hb2.size
    have HC2 := hide ((hb2.cell (p := ⟨w.heap.size, 0, none⟩) (by show w.heap.size < _; omega)).trans HC1.out)
    have HR2 := hide (HR1.out.below hb2 (by omega))
    have HNMC := hide hnm
    have HFZ := hide hfz
    replace hbz := hbz.trans (hb2.mono (by omega))
    clear hnm hfz hb2
    go_wp2_with fail
    obtain ⟨W3, hW3⟩ : ∃ W3 : World, W3 = w2.alloc (.cells #[.slice (some ⟨g, 0, none⟩) n cg] 30) := ⟨_, rfl⟩
    rw [← hW3]
    have hb3 : Below w2.heap.size w2 W3 := by rw [hW3]; exact (Below.refl _ _).alloc (Nat.le_refl _) _
    have hs3 : W3.heap.size = w2.heap.size + 1 := by rw [hW3]; simp
    have HX3 := hide (SiH.copy HLEN.out (bs := w2.heap.size) (by omega) (show W3.cell? ⟨w2.heap.size, 0, none⟩ = some (.slice (some ⟨g, 0, none⟩) n cg) by rw [hW3]; exact new_cell _ _ _ 0) HML.out (fun k hk => (HNMC.out k hk).below hb3 (by omega)))
    have HF3 := hide (fun i => (hb3.frozen (p := ⟨g, i, none⟩) (by show g < _; omega)).trans (HFZ.out i))
    obtain ⟨b, off, hA, hbhi, hsi⟩ := SiH.of (m := m) (by omega) ((hb3.cell (p := ⟨w.heap.size, 0, none⟩) (by show w.heap.size < _; omega)).trans HC2.out) (HR2.out.below hb3 (by omega)) (by omega) HML.out
    have HSI := hide hsi
    replace hbz := hbz.trans (hb3.mono (by omega))
    clear hsi hW3 hb3 HNMC HFZ hA
    refine (l22Heights_any HE1.out HML.out HSI.out).mono ?_
    rintro e w4 ⟨v, rfl, ho, hb4⟩
    have hs4 := hb4.size
    obtain ⟨C, hC⟩ : ∃ C, htL l m l.length = C := ⟨_, rfl⟩
    rw [hC] at ho
    have HCC := hide hC
    have hCl : C.length ≤ 25 := by rw [← hC]; have := htL_len l m l.length; rw [HLEN.out] at this ⊢; omega
    have hC1 : 0 < C.length := by rw [← hC]; exact List.length_pos_of_mem (htL_one l m l.length)
    obtain ⟨Ah, ch', rfl, hn1, hn2, hrd⟩ := ho.rd
    obtain ⟨bh, oh, rfl, hh1, hh2, hcell⟩ := rI_at hrd hC1
    have HCE := hide hcell
    obtain ⟨N, hN⟩ : ∃ N, C.length = N := ⟨_, rfl⟩
    rw [hN] at hn1 hCl hC1 ⊢
    have HN := hide hN
    have HX4 := hide (HX3.out.below hb4 (by omega) (by omega))
    have HF4 := hide (fun i => (hb4.frozen (p := ⟨g, i, none⟩) (by show g < _; omega)).trans (HF3.out i))
    replace hbz := hbz.trans (hb4.mono (by omega))
    clear ho hrd hcell hC hN hb4 HX3 HF3 hn1 hn2
    obtain ⟨L, hL⟩ : ∃ L, othL l m D l.length = L := ⟨_, rfl⟩
    have HL := hide hL
    clear hL
    go_wp2_with fail
    go_loopw [11, 12] (fun q i' wr => ∃ (k : Nat) (best : Int), k ≤ N ∧ i' = .int .i64 k ∧ q = .int .i64 best ∧ Hid (BsR L C k best) ∧ Hid (∃ hh, SiH wr w2.heap.size g 0 l m hh) ∧ Hid (∀ i, wr.frozen? ⟨g, i, none⟩ = false) ∧ Hid (∀ k c, C[k]? = some c → wr.cell? ⟨bh, oh + k, none⟩ = some (.int .i64 c)) ∧ Below w.heap.size w wr ∧ w4.heap.size ≤ wr.heap.size) (fun _ i' _ => N - (intOf i').toNat)
    case atStart => exact ⟨0, -1, by omega, rfl, rfl, hide (BsR.start L C), hide ⟨_, HX4.out⟩, HF4, HCE, hbz, Nat.le_refl _⟩
    case round =>
      clear hbz HX4 HF4 HCE
      obtain ⟨k, best, hk, rfl, rfl, HB, HX, HF, HCE, hbr, hsr⟩ := hrel
      obtain ⟨bb0, bb1⟩ := HB.out.bd
      by_cases hlt : k < N
      · obtain ⟨c0, hc0⟩ : ∃ c0, C[k]? = some c0 := ⟨C[k]'(by rw [HN.out]; exact hlt), List.getElem?_eq_getElem _⟩
        have HC0' := hide hc0
        have cE := HCE.out k c0 hc0
        have zk0 : (0 : Int) ≤ (k : Int) := by omega
        have zk1 : (k : Int) < (N : Int) := by omega
        have hbhr : bh < wr.heap.size := by omega
        clear hc0
        obtain ⟨r, hr⟩ : ∃ r, inR c0 1 2000 = r := ⟨_, rfl⟩
        have HR := hide hr
        clear hr
        cases r
        · go_wp2_with fail
          refine (l00In_is2 HR.out).mono ?_
          rintro e w5 ⟨rfl, hw⟩
          obtain rfl := hw.symm
          go_wp2_with fail
          go_roundw
          case rel => exact ⟨k + 1, best, by omega, by go_num, rfl, hide (HB.out.skip HC0'.out (fun h => by rw [HR.out] at h; cases h)), HX, HF, HCE, hbr, hsr⟩
          case measure => simp [intOf]; omega
        · by_cases hsk : 0 ≤ best ∧ best ≤ c0
          · obtain ⟨k1, k2⟩ := hsk
            go_wp2_with fail
            refine (l00In_is2 HR.out).mono ?_
            rintro e w5 ⟨rfl, hw⟩
            obtain rfl := hw.symm
            go_wp2_with fail
            go_roundw
            case rel => exact ⟨k + 1, best, by omega, by go_num, rfl, hide (HB.out.skip HC0'.out (fun _ _ => ⟨by omega, by omega⟩)), HX, HF, HCE, hbr, hsr⟩
            case measure => simp [intOf]; omega
          · by_cases hneg : best < 0
            · obtain ⟨q0, q1⟩ := inR_true HR.out
              obtain ⟨hh, hX⟩ := HX.out
              have HXX := hide hX
              obtain ⟨cx, hcx⟩ := hX.2.1
              have hown := (hX.own HML.out).2.2.2.1
              rw [Nat.zero_add] at hown
              rw [HLEN.out] at hcx
              have hf3 := HF.out (m * 7 + 3)
              have hgr : g < wr.heap.size := by omega
              have hxr : w2.heap.size < wr.heap.size := by omega
              clear hX
              obtain ⟨fr, hfr⟩ : ∃ fr, freeAt L c0 = fr := ⟨_, rfl⟩
              have HFR := hide hfr
              have HFRE := hide (show frK l m c0 D l.length = fr by rw [← hfr, ← HL.out]; exact (free_oth l m D c0 l.length).symm)
              clear hfr
              go_wp2_with fail
              refine (l00In_is2 HR.out).mono ?_
              rintro e w5 ⟨rfl, hw⟩
              obtain rfl := hw.symm
              go_wp2_with fail
              go_region
              go_wp2_with fail
              have hX6 : SiH (World.drew (wr.setCell ⟨g, m * 7 + 3, none⟩ (.int .i64 c0))) w2.heap.size g 0 l m c0 := by have := HXX.out.put HML.out (by omega) c0; rw [Nat.zero_add] at this; exact this
              have hF6 : ∀ i, (World.drew (wr.setCell ⟨g, m * 7 + 3, none⟩ (.int .i64 c0))).frozen? ⟨g, i, none⟩ = false := fun i => (World.frozen?_setCell _ _ _ _).trans (HF.out i)
              have hC6 : ∀ k c, C[k]? = some c → (World.drew (wr.setCell ⟨g, m * 7 + 3, none⟩ (.int .i64 c0))).cell? ⟨bh, oh + k, none⟩ = some (.int .i64 c) := fun k c hc => (World.cell?_setCell_far wr ⟨g, m * 7 + 3, none⟩ ⟨bh, oh + k, none⟩ (.int .i64 c0) (by show g ≠ bh; omega)).trans (HCE.out k c hc)
              have hB6 : Below w.heap.size w (World.drew (wr.setCell ⟨g, m * 7 + 3, none⟩ (.int .i64 c0))) := (hbr.setCell (by show w.heap.size ≤ g; omega) _).drew
              have hs6 : (World.drew (wr.setCell ⟨g, m * 7 + 3, none⟩ (.int .i64 c0))).heap.size = wr.heap.size := by show ((wr.setCell ⟨g, m * 7 + 3, none⟩ (.int .i64 c0))).heap.size = _; simp [World.setCell]
              generalize World.drew (wr.setCell ⟨g, m * 7 + 3, none⟩ (.int .i64 c0)) = wz at *
              clear cE hown hf3 hcx
              refine (l22Free_is HE1.out HML.out q0 q1 d0 d1 HFRE.out hX6).mono ?_
              rintro e w6 ⟨rfl, hb6⟩
              have hs7 := hb6.size
              replace hX6 := hide (Exists.intro c0 (hX6.below hb6 (by omega) (by omega)))
              replace hF6 := hide (fun i => (hb6.frozen (p := ⟨g, i, none⟩) (by show g < _; omega)).trans (hF6 i))
              replace hC6 := hide (fun k c hc => (hb6.cell (p := ⟨bh, oh + k, none⟩) (by show bh < _; omega)).trans (hC6 k c hc))
              replace hB6 := hB6.trans (hb6.mono hB6.size)
              have hsr6 : w4.heap.size ≤ w6.heap.size := by omega
              have hbh6 : bh < w6.heap.size := by omega
              clear hb6 HF HCE HX HXX hbr hsr
              cases fr
              · go_wp2_with fail
                go_roundw
                case rel => exact ⟨k + 1, best, by omega, by go_num, rfl, hide (HB.out.skip HC0'.out (fun _ h => by rw [HFR.out] at h; cases h)), hX6, hF6, hC6, hB6, hsr6⟩
                case measure => simp [intOf]; omega
              · have cE := hC6.out k c0 HC0'.out
                go_wp2_with fail
                go_roundw
                case rel => exact ⟨k + 1, c0, by omega, by go_num, rfl, hide (HB.out.take HC0'.out HR.out HFR.out (by omega)), hX6, hF6, hC6, hB6, hsr6⟩
                case measure => simp [intOf]; omega
            · have hge : c0 < best := by omega
              skip
              obtain ⟨q0, q1⟩ := inR_true HR.out
              obtain ⟨hh, hX⟩ := HX.out
              have HXX := hide hX
              obtain ⟨cx, hcx⟩ := hX.2.1
              have hown := (hX.own HML.out).2.2.2.1
              rw [Nat.zero_add] at hown
              rw [HLEN.out] at hcx
              have hf3 := HF.out (m * 7 + 3)
              have hgr : g < wr.heap.size := by omega
              have hxr : w2.heap.size < wr.heap.size := by omega
              clear hX
              obtain ⟨fr, hfr⟩ : ∃ fr, freeAt L c0 = fr := ⟨_, rfl⟩
              have HFR := hide hfr
              have HFRE := hide (show frK l m c0 D l.length = fr by rw [← hfr, ← HL.out]; exact (free_oth l m D c0 l.length).symm)
              clear hfr
              go_wp2_with fail
              refine (l00In_is2 HR.out).mono ?_
              rintro e w5 ⟨rfl, hw⟩
              obtain rfl := hw.symm
              go_wp2_with fail
              go_region
              go_wp2_with fail
              have hX6 : SiH (World.drew (wr.setCell ⟨g, m * 7 + 3, none⟩ (.int .i64 c0))) w2.heap.size g 0 l m c0 := by have := HXX.out.put HML.out (by omega) c0; rw [Nat.zero_add] at this; exact this
              have hF6 : ∀ i, (World.drew (wr.setCell ⟨g, m * 7 + 3, none⟩ (.int .i64 c0))).frozen? ⟨g, i, none⟩ = false := fun i => (World.frozen?_setCell _ _ _ _).trans (HF.out i)
              have hC6 : ∀ k c, C[k]? = some c → (World.drew (wr.setCell ⟨g, m * 7 + 3, none⟩ (.int .i64 c0))).cell? ⟨bh, oh + k, none⟩ = some (.int .i64 c) := fun k c hc => (World.cell?_setCell_far wr ⟨g, m * 7 + 3, none⟩ ⟨bh, oh + k, none⟩ (.int .i64 c0) (by show g ≠ bh; omega)).trans (HCE.out k c hc)
              have hB6 : Below w.heap.size w (World.drew (wr.setCell ⟨g, m * 7 + 3, none⟩ (.int .i64 c0))) := (hbr.setCell (by show w.heap.size ≤ g; omega) _).drew
              have hs6 : (World.drew (wr.setCell ⟨g, m * 7 + 3, none⟩ (.int .i64 c0))).heap.size = wr.heap.size := by show ((wr.setCell ⟨g, m * 7 + 3, none⟩ (.int .i64 c0))).heap.size = _; simp [World.setCell]
              generalize World.drew (wr.setCell ⟨g, m * 7 + 3, none⟩ (.int .i64 c0)) = wz at *
              clear cE hown hf3 hcx
              refine (l22Free_is HE1.out HML.out q0 q1 d0 d1 HFRE.out hX6).mono ?_
              rintro e w6 ⟨rfl, hb6⟩
              have hs7 := hb6.size
              replace hX6 := hide (Exists.intro c0 (hX6.below hb6 (by omega) (by omega)))
              replace hF6 := hide (fun i => (hb6.frozen (p := ⟨g, i, none⟩) (by show g < _; omega)).trans (hF6 i))
              replace hC6 := hide (fun k c hc => (hb6.cell (p := ⟨bh, oh + k, none⟩) (by show bh < _; omega)).trans (hC6 k c hc))
              replace hB6 := hB6.trans (hb6.mono hB6.size)
              have hsr6 : w4.heap.size ≤ w6.heap.size := by omega
              have hbh6 : bh < w6.heap.size := by omega
              clear hb6 HF HCE HX HXX hbr hsr
              cases fr
              · go_wp2_with fail
                go_roundw
                case rel => exact ⟨k + 1, best, by omega, by go_num, rfl, hide (HB.out.skip HC0'.out (fun _ h => by rw [HFR.out] at h; cases h)), hX6, hF6, hC6, hB6, hsr6⟩
                case measure => simp [intOf]; omega
              · have cE := hC6.out k c0 HC0'.out
                go_wp2_with fail
                go_roundw
                case rel => exact ⟨k + 1, c0, by omega, by go_num, rfl, hide (HB.out.take HC0'.out HR.out HFR.out (by omega)), hX6, hF6, hC6, hB6, hsr6⟩
                case measure => simp [intOf]; omega
      · have hkn : k = N := by omega
        subst hkn
        have HB2 := hide (show BsR (othL l m D l.length) C C.length best by rw [HL.out, HN.out]; exact HB.out)
        by_cases hneg : best < 0
        · have HF2 := hide (BsR.none (i := (m : Int)) HCC.out HZ.out HB2.out hneg)
          go_wp2_with fail
          go_ret2
          exact ⟨0, 3, rfl, HF2.out, hbr⟩
        · have HF2 := hide (BsR.some (i := (m : Int)) HCC.out HZ.out HB2.out hneg)
          go_wp2_with fail
          go_ret2
          exact ⟨best, 0, rfl, HF2.out, hbr⟩
  · obtain ⟨cd, hcd⟩ : ∃ cd, cdL l i D = cd := ⟨_, rfl⟩
    have HL := hide (show LhR l i D 0 cd by rw [← hcd]; exact LhR.bad hz)
    rw [hcd] at hz
    have HCD := hide hcd
    have hz2 : (cd != 0) = true := by simpa using hz
    clear hcd
    go_enter Tryz.func5, Tryz.ntmps5
    go_wp2_with fail
    rw [HW0.out]
    refine (l22Crane_any w.heap.size 0 A n c lo hi own l hn HCH.out HNM.out _ i D (by omega) HC0.out HR0.out (by omega)).mono ?_
    rintro e w1 ⟨rfl, hb1⟩
    have hs1 := hb1.size
    rw [HCD.out]
    have HB := hide (hb0.trans (hb1.mono (by omega)))
    go_wp2_with fail
    go_ret2
    exact ⟨0, cd, rfl, HL.out, HB.out⟩


end Go.Proofs.YtajjophmngabbaaGreatDoor
