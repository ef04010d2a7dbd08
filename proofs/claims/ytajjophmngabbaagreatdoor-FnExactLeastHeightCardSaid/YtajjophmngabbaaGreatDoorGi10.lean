/-
  LeastHeight, the program's. No condition but those that each theorem names.
-/
import Derived.Test.YtajjophmngabbaaGreatDoorGi9
import Derived.WalkMore
namespace Go.Proofs.YtajjophmngabbaaGreatDoor
open Go.RowKit
set_option linter.unusedVariables false
set_option linter.unusedSimpArgs false

theorem AlM.bel {X : Nat} {L : List (Bool × Bool × Bool × Int)} {W W' : World} (h : AlM X L W) (hb : Below W.heap.size W W') : AlM X L W' := by
  obtain ⟨A, c, n, hn, h1, h2, h3, h4⟩ := h
  exact ⟨A, c, n, hn, h1.below hb h4, h2.below hb h4, rowB h3 hb (Nat.le_refl _), Nat.lt_of_lt_of_le h4 hb.size⟩
/-- The elements of the list, read. -/
theorem AlM.get {X : Nat} {L : List (Bool × Bool × Bool × Int)} {W : World} (h : AlM X L W) : ∃ A c, W.cell? ⟨X, 0, none⟩ = some (.slice A L.length c) ∧ X < W.heap.size ∧ (0 < L.length → ∃ g, A = some ⟨g, 0, none⟩ ∧ g < W.heap.size ∧ ∀ k (hk : k < L.length), W.cell? ⟨g, k * 4, none⟩ = some (.bool L[k].1) ∧ W.cell? ⟨g, k * 4 + 1, none⟩ = some (.bool L[k].2.1) ∧ W.cell? ⟨g, k * 4 + 2, none⟩ = some (.bool L[k].2.2.1) ∧ W.cell? ⟨g, k * 4 + 3, none⟩ = some (.int .i64 L[k].2.2.2)) := by
  obtain ⟨A, c, n, rfl, h1, h2, h3, h4⟩ := h
  refine ⟨A, c, h1 0 _ rfl, h4, fun hpos => ?_⟩
  obtain ⟨g, cap, hv, _, hg⟩ := h3.form hpos
  injection hv with e1 _ e3
  subst e1 e3
  refine ⟨g, rfl, hg, fun k hk => ?_⟩
  have hc : ∀ i, i < 4 → W.cell? ⟨g, k * 4 + i, none⟩ = (cClo L[k])[i]? := fun i hi => by
    rw [h3.cellAt (k * 4 + i) (by omega)]
    exact rows_at (f := cClo) (m := 4) (fun _ => rfl) L k hk i hi
  exact ⟨hc 0 (by omega), hc 1 (by omega), hc 2 (by omega), hc 3 (by omega)⟩
theorem box_dr {W : World} {b : Nat} {vs : List Value} (h : Box W b vs) : Box (World.drew W) b vs := h

set_option maxRecDepth 100000 in
set_option maxHeartbeats 4000000 in
theorem others_any {A : Option Addr} {n c lo hi : Nat} {own : Bool} {l : List Crn} (hs : siteB l = true) {X bs bi bd m : Nat} {D : Int} (hm : m < l.length) (hD0 : 0 ≤ D) (hD1 : D ≤ 1000) (hX0 : 0 < X) (h1 : bs < X) (h2 : bi < X) (h3 : bd < X) (hhi : hi ≤ X) {w : World} (h : RdC w lo hi own A n l) (hA : AlM X [] w) (cs : Box w bs [.slice A n c]) (ci' : Box w bi [.int .i64 (m : Int)]) (cd : Box w bd [.int .i64 D]) (ht : Tq w) :
    Calls Tryz.prog 17 #[.agg #[.slice A n c], .int .i64 (m : Int), .func (.func 18) #[] #[.pointer (some ⟨X, 0, none⟩), .pointer (some ⟨bs, 0, none⟩), .pointer (some ⟨bi, 0, none⟩), .pointer (some ⟨bd, 0, none⟩)]] w fun e w' => e = .returned (.bool true) ∧ AlM X (othL l m D n) w' ∧ Below X w w' := by
  have hcr := (siteB_cr hs).1
  have hl6 := (siteB_cr hs).2.2
  have hl1 := (siteB_cr hs).2.1
  have hlen := h.length
  rw [hlen] at hl6 hl1
  have HLEN := hide hlen
  have HCR := hide hcr
  have HR := hide h
  have HM := hide hm
  obtain ⟨b, off, hA', hb1, hb2, hat⟩ := h.2 (by omega)
  obtain ⟨Ai, ci, hcell, _, _, _⟩ := hat m hm
  obtain ⟨cm, hcm⟩ : ∃ cm, l[m] = cm := ⟨_, rfl⟩
  replace hcell : ∀ i v, (cCr cm (.slice Ai cm.ch.length ci))[i]? = some v → w.cell? ⟨b, off + m * 7 + i, none⟩ = some v := by rw [← hcm]; exact hcell
  have KA := hide (show crB cm = true from hcm ▸ hcr _ (List.getElem_mem hm))
  have HCM := hide hcm
  have HCELL := hide hcell
  subst hA'
  clear hcr h hat hcell hcm hlen
  obtain ⟨W0, hW0⟩ : ∃ W0 : World, w.alloc (.cells #[.slice (some ⟨b, off, none⟩) n c] 30) = W0 := ⟨_, rfl⟩
  have hb0 : Below w.heap.size w W0 := by rw [← hW0]; exact (Below.refl _ _).alloc (Nat.le_refl _) _
  have hz0 : W0.heap.size = w.heap.size + 1 := by rw [← hW0]; simp
  have hc0 : W0.cell? ⟨w.heap.size, 0, none⟩ = some (.slice (some ⟨b, off, none⟩) n c) := by rw [← hW0]; exact new_cell _ _ _ 0
  have HA0 := hide (hA.bel hb0)
  have hX := hA
  obtain ⟨_, _, _, _, _, _, _, hXw⟩ := hX
  have HB0 := hide (show Below X w W0 from Below.mono hb0 (by omega))
  have HCS := hide cs
  have HCI := hide ci'
  have HCD := hide cd
  have HT := hide ht
  have HC0 := hide hc0
  have HW0 := hide hW0
  clear hA hb0 cs ci' cd ht hW0 hc0
  go_enter Tryz.func17, Tryz.ntmps17
  go_wp2_with fail
  try rw [HW0.out]
  go_loopw [12] (fun i wr => ∃ k : Nat, k ≤ n ∧ i = .int .i64 k ∧ Hid (AlM X (othL l m D k) wr) ∧ Hid (Below X w wr)) (fun i _ => n - (intOf i).toNat)
  case atStart => first | exact ⟨0, by omega, rfl, HA0, HB0⟩ | (rw [HW0.out]; exact ⟨0, by omega, rfl, HA0, HB0⟩)
  case round =>
    obtain ⟨k, hk, rfl, HAL, HBR⟩ := hrel
    have hXr : X < wr.heap.size := HAL.out.choose_spec.choose_spec.choose_spec.2.2.2.2
    by_cases hlt : k < n
    · have hil : k < l.length := by rw [HLEN.out]; exact hlt
      obtain ⟨b9, off9, Aj, cj, hA9, _, _, c0, c1, c2, c3, c4, c5, c6, _, _⟩ := (HR.out.below HBR.out hhi).at_ hil
      injection hA9 with hA9
      injection hA9 with e1 e2
      subst e1 e2
      have hbw : b < wr.heap.size := by omega
      have z0 : (0 : Int) ≤ (k : Int) := by omega
      have z1 : (k : Int) < (n : Int) := by omega
      obtain ⟨nj, hnj⟩ : ∃ nj, l[k].ch.length = nj := ⟨_, rfl⟩
      rw [hnj] at c6
      clear hnj
      have KB := hide (HCR.out _ (List.getElem_mem hil))
      obtain ⟨⟨bm, fi, se, hh⟩, hp⟩ : ∃ p, clN cm l[k] D = p := ⟨_, rfl⟩
      have HP := hide hp
      clear hp
      by_cases hkm : k = m
      · have HE := hide (othL_self (l := l) (i := m) (D := D) hkm)
        subst hkm
        have hkm2 : ((k : Int) != (k : Int)) = false := by simp
        generalize l[k] = ck at *
        go_wp2_with fail
        go_roundw
        case rel => exact ⟨k + 1, by omega, by go_num, by rw [HE.out]; exact hide (HAL.out.bel ((Below.refl _ _).alloc (Nat.le_refl _) _)), hide (HBR.out.alloc (by omega) _)⟩
        case measure => simp [intOf]; omega
      · have HE := hide (show othL l m D (k + 1) = othL l m D k ++ [(bm, fi, se, hh)] by rw [othL_oth hkm HM.out hil, show l[m]'HM.out = cm from HCM.out, HP.out])
        have hkm2 : ((k : Int) != (m : Int)) = true := by simp; omega
        have hOL := othL_len l m D k
        generalize l[k] = ck at *
        obtain ⟨nm2, x2, y2, hb, j2, b2, ch2⟩ := ck
        simp only at c0 c1 c2 c3 c4 c5 c6
        go_wp2_with fail
        obtain ⟨W8, hW8⟩ : ∃ W : World, W = wr.alloc (.cells #[.string nm2, .int .i64 x2, .int .i64 y2, .int .i64 hb, .int .i64 j2, .int .i64 b2, .slice Aj nj cj] 45) := ⟨_, rfl⟩
        rw [← hW8]
        have hb8 : Below wr.heap.size wr W8 := by rw [hW8]; exact (Below.refl _ _).alloc (Nat.le_refl _) _
        have hB8 := HBR.out.trans (Below.mono hb8 (Nat.le_of_lt hXr))
        clear hW8 c0 c1 c2 c3 c4 c5 c6
        obtain ⟨nm, x, y, ha, j, b', ch⟩ := cm
        refine (clo1_is (ni := ch.length) (Ai := Ai) (ci := ci) (o := off + m * 7) (ch := ch) (ch2 := ch2) KA.out KB.out hD0 hD1 HP.out (by omega) rfl (by have := HM.out; rw [HLEN.out] at this; exact this) h1 h2 h3 (by omega) (HAL.out.bel hb8) (HCS.out.below hB8 h1) (HCI.out.below hB8 h2) (HCD.out.below hB8 h3) (fun i v hv => (hB8.cell (p := ⟨b, off + m * 7 + i, none⟩) (by show b < X; omega)).trans (HCELL.out i v hv)) (HT.out.below hB8 (by omega))).mono ?_
        rintro e w9 ⟨rfl, hAL9, hb9⟩
        have HAL9 := hide hAL9
        have HB9 := hide (hB8.trans hb9)
        clear hAL9 hb9 hB8 hb8
        go_wp2_with fail
        go_roundw
        case rel => exact ⟨k + 1, by omega, by go_num, by rw [HE.out]; exact HAL9, HB9⟩
        case measure => simp [intOf]; omega
    · have hkn : k = n := by omega
      subst hkn
      go_wp2_with fail
      go_ret
      exact ⟨rfl, HAL.out, HBR.out⟩

theorem cdL_zero' {l : List Crn} {i D : Int} (h : cdL l i D = 0) : siteB l = true ∧ inR i 0 ((l.length : Int) - 1) = true ∧ inR D 0 1000 = true := by
  unfold cdL at h
  by_cases e : siteB l = true
  · rw [if_pos e] at h
    by_cases e2 : (inR i 0 ((l.length : Int) - 1) && inR D 0 1000) = true
    · rw [Bool.and_eq_true] at e2; exact ⟨e, e2⟩
    · rw [if_neg e2] at h; omega
  · rw [if_neg e] at h; omega
theorem not_free {L : List (Bool × Bool × Bool × Int)} {h : Int} {k : Nat} (hk : k < L.length) (hn : hnd L[k] h = true) : freeAt L h = false := by
  unfold freeAt
  rw [List.all_eq_false]
  exact ⟨_, List.getElem_mem hk, by simp [hn]⟩
theorem all_free {L : List (Bool × Bool × Bool × Int)} {h : Int} (hn : ∀ t (ht : t < L.length), hnd L[t] h = false) : freeAt L h = true := by
  unfold freeAt
  rw [List.all_eq_true]
  intro x hx
  obtain ⟨t, ht, rfl⟩ := List.mem_iff_getElem.1 hx
  simp [hn t ht]
/-- The heights in the list are those of valid cranes. -/
theorem oth_h {l : List Crn} {m : Nat} {D : Int} {L : List (Bool × Bool × Bool × Int)} (hs : siteB l = true) (hL : othL l m D l.length = L) : ∀ p ∈ L, 0 ≤ p.2.2.2 ∧ p.2.2.2 ≤ 3000 := by
  rw [← hL]
  have key : ∀ k, k ≤ l.length → ∀ p ∈ othL l m D k, 0 ≤ p.2.2.2 ∧ p.2.2.2 ≤ 3000 := by
    intro k
    induction k with
    | zero => intro _ p hp; simp [othL] at hp
    | succ k ih =>
      intro hk p hp
      rw [othL] at hp
      split at hp
      · exact ih (by omega) p hp
      · rw [List.mem_append] at hp
        rcases hp with hp | hp
        · exact ih (by omega) p hp
        · obtain rfl := List.mem_singleton.1 hp
          have := h_bd ((siteB_cr hs).1 _ (List.getElem_mem (show k < l.length by omega)))
          rw [← getC (show k < l.length by omega)] at this
          simp only [clN]
          omega
  exact key _ (Nat.le_refl _)

set_option maxRecDepth 100000 in
set_option maxHeartbeats 4000000 in
theorem implLeastHeight_any (A : Option Addr) (n c lo hi : Nat) (own : Bool) (l : List Crn) (hn : n ≤ 1048576) (hch : ∀ p ∈ l, p.ch.length ≤ 1048576) (hnm : ∀ p ∈ l, p.nm.size ≤ maxLen) (w : World) (h : RdC w lo hi own A n l) (hhi : hi ≤ w.heap.size) (hnc : n ≤ c) (i D : Int) (ht : Tq w) :
    Calls Tryz.prog 7 #[.agg #[.slice A n c], .int .i64 i, .int .i64 D] w fun e w' => ∃ a c', e = .returned (.tuple #[.int .i64 a, .int .i64 c']) ∧ LhR l i D a c' ∧ Below w.heap.size w w' := by
  have HCH := hide hch
  have HNM := hide hnm
  have HLEN := hide h.length
  obtain ⟨W0, hW0⟩ : ∃ W0 : World, (((w.alloc (.cells #[.slice A n c] 30)).alloc (.cells #[.int .i64 i] 2)).alloc (.cells #[.int .i64 D] 2)) = W0 := ⟨_, rfl⟩
  have hb0 : Below w.heap.size w W0 := by rw [← hW0]; exact (((Below.refl _ _).alloc (Nat.le_refl _) _).alloc (by simp) _).alloc (by simp; try omega) _
  have hz0 : W0.heap.size = w.heap.size + 3 := by rw [← hW0]; simp
  have HS0 := hide (show Box W0 w.heap.size [.slice A n c] by rw [← hW0]; exact ((box_at _ _ _ _ (by simp)).alloc (by simp; try omega) _).alloc (by simp; try omega) _)
  have HI0 := hide (show Box W0 (w.heap.size + 1) [.int .i64 i] by rw [← hW0]; exact (box_at _ _ _ _ (by simp)).alloc (by simp; try omega) _)
  have HD0 := hide (show Box W0 (w.heap.size + 2) [.int .i64 D] by rw [← hW0]; exact box_at _ _ _ _ (by simp))
  have HW0 := hide hW0
  have HR0 := hide (h.below hb0 hhi)
  have HT0 := hide (ht.of hb0)
  have hq0 := ht.1
  clear hW0 hch hnm h ht
  by_cases hz : cdL l i D = 0
  · obtain ⟨e1, e2, e3⟩ := cdL_zero' hz
    obtain ⟨i0, i1⟩ := inR_true e2
    obtain ⟨d0, d1⟩ := inR_true e3
    have hl6 := (siteB_cr e1).2.2
    rw [HLEN.out] at i1 hl6
    obtain ⟨m, rfl⟩ : ∃ m : Nat, i = (m : Int) := ⟨i.toNat, by omega⟩
    have hml : m < l.length := by rw [HLEN.out]; omega
    have HE1 := hide e1
    have HZ := hide hz
    have HML := hide hml
    clear e1 e2 e3 hz
    go_enter Tryz.func7, Tryz.ntmps7
    go_wp2_with fail
    rw [HW0.out]
    have s0 := HS0.out 0 _ rfl
    have s1 := HI0.out 0 _ rfl
    have s2 := HD0.out 0 _ rfl
    go_step3
    go_wp2_with fail
    clear s0 s1 s2
    refine (distanceCode_any A n c lo hi own l hn HCH.out HNM.out _ HR0.out (by omega) hnc m D).mono ?_
    rintro e w1 ⟨rfl, hb1⟩
    have hs1 := hb1.size
    rw [HZ.out]
    have hbz := hb0.trans (hb1.mono (by omega))
    have HS1 := hide (HS0.out.below hb1 (by omega))
    have HI1 := hide (HI0.out.below hb1 (by omega))
    have HD1 := hide (HD0.out.below hb1 (by omega))
    have HR1 := hide (HR0.out.below hb1 (by omega))
    have HT1 := hide (HT0.out.of hb1)
    clear hb1 HS0 HI0 HD0 HR0 HT0 HW0 hb0
    obtain ⟨W2, hW2⟩ : ∃ W : World, w1.alloc (.cells #[.slice none 0 0] 49) = W := ⟨_, rfl⟩
    have hb2 : Below w1.heap.size w1 W2 := by rw [← hW2]; exact (Below.refl _ _).alloc (Nat.le_refl _) _
    have hz2 : W2.heap.size = w1.heap.size + 1 := by rw [← hW2]; simp
    have HA2 := hide (show AlM w1.heap.size [] W2 from ⟨none, 0, 0, rfl, by rw [← hW2]; exact box_at _ _ _ _ rfl, by rw [← hW2]; exact fz_at _ _ _ _ rfl, World.ownsRow_nil _ _ _ _, by omega⟩)
    have HS2 := hide (HS1.out.below hb2 (by omega))
    have HI2 := hide (HI1.out.below hb2 (by omega))
    have HD2 := hide (HD1.out.below hb2 (by omega))
    have HR2 := hide (HR1.out.below hb2 (by omega))
    have HT2 := hide (HT1.out.of hb2)
    replace hbz := hbz.trans (hb2.mono (by omega))
    have HW2 := hide hW2
    have s0 := HS1.out 0 _ rfl
    have s1 := HI1.out 0 _ rfl
    have s2 := HD1.out 0 _ rfl
    have t0 := HS2.out 0 _ rfl
    have t1 := HI2.out 0 _ rfl
    have t2 := HD2.out 0 _ rfl
    clear hW2 hb2 HS1 HI1 HD1 HR1 HT1 s0 s1 s2
    go_upto_region 5 with fail
    rw [HW2.out]
    go_wp2_with fail
    refine (others_any HE1.out HML.out d0 d1 (by omega) (by omega) (by omega) (by omega) (by omega) HR2.out HA2.out HS2.out HI2.out HD2.out HT2.out).mono ?_
    rintro e w3 ⟨rfl, hA3, hb3⟩
    have hs3 := hb3.size
    replace hbz := hbz.trans (hb3.mono (by omega))
    clear t0 t1 t2 HR2 HA2 HS2 HI2 HD2 HT2 hb3
    rw [← HLEN.out] at hA3
    obtain ⟨L, hL⟩ : ∃ L, othL l m D l.length = L := ⟨_, rfl⟩
    have HL := hide hL
    rw [hL] at hA3
    obtain ⟨A3, c3, hcx, hX3, hel⟩ := hA3.get
    obtain ⟨N, hN⟩ : ∃ N, L.length = N := ⟨_, rfl⟩
    have hN6 : N ≤ 100 := by rw [← hN, ← hL]; have := othL_len l m D l.length; rw [HLEN.out] at this ⊢; omega
    have HN := hide hN
    rw [hN] at hcx
    have HCX := hide hcx
    have HEL := hide hel
    have HHH := hide (oth_h (D := D) HE1.out hL)
    obtain ⟨X, hXX⟩ : ∃ X, w1.heap.size = X := ⟨_, rfl⟩
    rw [hXX] at HCX hX3
    have HXX := hide hXX
    clear hA3 hL hcx hel hN hXX
    go_wp2_with fail
    try rw [HXX.out]
    go_step3
    go_wp2_with fail
    go_loopw [10] (fun v wr => ∃ h : Nat, 1 ≤ h ∧ h ≤ 2001 ∧ v = .int .i64 h ∧ Hid (∀ z : Int, 1 ≤ z → z < h → freeAt L z = false) ∧ Below w3.heap.size w3 wr) (fun v _ => 2001 - (intOf v).toNat)
    case atStart => exact ⟨1, by omega, by omega, rfl, hide (fun z h1 h2 => absurd h1 (by omega)), Below.refl _ _⟩
    case round =>
      obtain ⟨h, hh1, hh2, rfl, HF, hbr⟩ := hrel
      have hsz := hbr.size
      by_cases hlt : h ≤ 2000
      · have hlt2 : decide ((h : Int) ≤ 2000) = true := by simp; omega
        have cX := (hbr.cell (p := ⟨X, 0, none⟩) (by show X < _; omega)).trans HCX.out
        go_wp2_with fail
        clear cX
        generalize wr = W5 at *
        go_loopw [30] (fun v wr => ∃ k : Nat, k ≤ N ∧ v = .int .i64 k ∧ Hid (∀ t (ht : t < L.length), t < k → hnd L[t] h = false) ∧ Below w3.heap.size w3 wr) (fun v _ => N - (intOf v).toNat)
        case atStart => exact ⟨0, by omega, rfl, hide (fun t ht h0 => absurd h0 (by omega)), hbr⟩
        case round =>
          clear hbr hsz
          obtain ⟨k, hk, rfl, HK, hbr⟩ := hrel
          have hsz := hbr.size
          by_cases hlk : k < N
          · have hkl : k < L.length := by rw [HN.out]; exact hlk
            obtain ⟨g, hg, hgw, hcl⟩ := HEL.out (by omega)
            obtain ⟨q0, q1, q2, q3⟩ := hcl k hkl
            subst hg
            clear hcl
            replace q0 := (hbr.cell (p := ⟨g, k * 4, none⟩) hgw).trans q0
            replace q1 := (hbr.cell (p := ⟨g, k * 4 + 1, none⟩) hgw).trans q1
            replace q2 := (hbr.cell (p := ⟨g, k * 4 + 2, none⟩) hgw).trans q2
            replace q3 := (hbr.cell (p := ⟨g, k * 4 + 3, none⟩) hgw).trans q3
            have hb9 := HHH.out _ (List.getElem_mem hkl)
            have HQ := hide (show ∀ (t : Nat) (ht : t < L.length), t = k → L[t] = L[k] from fun t ht e => by subst e; rfl)
            obtain ⟨pk, hpk⟩ : ∃ p, L[k] = p := ⟨_, rfl⟩
            have HPK := hide hpk
            rw [hpk] at q0 q1 q2 q3 hb9
            clear hpk HQ
            obtain ⟨bm, fi, se, hh⟩ := pk
            simp only at q0 q1 q2 q3 hb9
            obtain ⟨r, hr⟩ : ∃ r, hnd (bm, fi, se, hh) (h : Int) = r := ⟨_, rfl⟩
            have HR := hide hr
            clear hr
            have zk0 : (0 : Int) ≤ (k : Int) := by omega
            have zk1 : (k : Int) < (N : Int) := by omega
            go_wp2_with fail
            refine (hinders_is (by omega) (by omega) (by omega) (by omega) HR.out).mono ?_
            rintro e w6 ⟨rfl, hb6⟩
            have hB6 := hbr.trans (Below.mono (((Below.refl wr.heap.size wr).alloc (Nat.le_refl _) _).trans (Below.mono hb6 (by simp))) hsz)
            clear hb6 q0 q1 q2 q3
            cases r
            · go_wp2_with fail
              go_roundw
              case rel => exact ⟨k + 1, by omega, by go_num, hide (fun t ht h0 => by rcases Nat.lt_or_ge t k with e | e; (exact HK.out t ht e); (obtain rfl : t = k := by omega); rw [HPK.out]; exact HR.out), hB6⟩
              case measure => simp [intOf]; omega
            · have HNF := hide (not_free (L := L) (h := (h : Int)) hkl (by rw [HPK.out]; exact HR.out))
              go_wp2_with fail
              go_roundw
              case rel => exact ⟨h + 1, by omega, by omega, by go_num, hide (fun z h1 h2 => by rcases Int.lt_or_le z h with e | e; (exact HF.out z h1 e); (obtain rfl : z = (h : Int) := by omega); exact HNF.out), hB6⟩
              case measure => simp [intOf]; omega
          · have HFR := hide (all_free (L := L) (h := (h : Int)) (fun t ht => HK.out t ht (by rw [HN.out] at ht; omega)))
            have HRES := hide (LhR.first (i := (m : Int)) HZ.out (show 1 ≤ (h : Int) by omega) (by omega) (by rw [show ((m : Int)).toNat = m from rfl, HL.out]; exact HFR.out) (by rw [show ((m : Int)).toNat = m from rfl, HL.out]; exact HF.out))
            go_wp2_with fail
            try rw [Exit.noGoto_ret]
            go_ret2
            exact ⟨_, 0, rfl, HRES.out, hbz.trans (hbr.mono (by omega))⟩
      · have hh3 : h = 2001 := by omega
        subst hh3
        have HRES := hide (LhR.never (i := (m : Int)) HZ.out (by rw [show ((m : Int)).toNat = m from rfl, HL.out]; exact HF.out))
        go_wp2_with fail
        try rw [Exit.noGoto_ret]
        go_ret2
        exact ⟨0, 3, rfl, HRES.out, hbz.trans (hbr.mono (by omega))⟩
  · obtain ⟨cd, hcd⟩ : ∃ cd, cdL l i D = cd := ⟨_, rfl⟩
    have HL := hide (show LhR l i D 0 cd by rw [← hcd]; exact LhR.bad hz)
    rw [hcd] at hz
    have HCD := hide hcd
    have hz2 : (cd != 0) = true := by simpa using hz
    clear hcd
    go_enter Tryz.func7, Tryz.ntmps7
    go_wp2_with fail
    rw [HW0.out]
    have s0 := HS0.out 0 _ rfl
    have s1 := HI0.out 0 _ rfl
    have s2 := HD0.out 0 _ rfl
    go_step3
    go_wp2_with fail
    clear s0 s1 s2
    refine (distanceCode_any A n c lo hi own l hn HCH.out HNM.out _ HR0.out (by omega) hnc i D).mono ?_
    rintro e w1 ⟨rfl, hb1⟩
    have hs1 := hb1.size
    rw [HCD.out]
    have HB := hide (hb0.trans (hb1.mono (by omega)))
    go_wp2_with fail
    try rw [Exit.noGoto_ret]
    go_ret2
    exact ⟨0, cd, rfl, HL.out, HB.out⟩


end Go.Proofs.YtajjophmngabbaaGreatDoor
