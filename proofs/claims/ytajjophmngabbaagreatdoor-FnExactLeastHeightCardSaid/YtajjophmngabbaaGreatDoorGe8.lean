/-
  The reference's copy of a site: the numbers of its cranes. No condition but those that each theorem names.
-/
import Derived.Test.YtajjophmngabbaaGreatDoorGe7
import Derived.Test.YtajjophmngabbaaGreatDoorCr2
namespace Go.Proofs.YtajjophmngabbaaGreatDoor
open Go.RowKit
set_option linter.unusedVariables false
set_option linter.unusedSimpArgs false

theorem news_new (w : World) (L : List Value) (T : TypeId) (b : Nat) (hb : b = w.heap.size) : ∀ j u, L[j]? = some u → (w.alloc (.cells L.toArray T)).cell? ((⟨b, 0, none⟩ : Addr).add j) = some u := by
  subst hb
  intro j u hu
  rw [add_cell, Nat.zero_add, new_cell]
  simpa using hu
/-- The cells xs hold the numbers of the first k cranes. -/
def CpOk (l : List Crn) (k : Nat) (xs : List Value) : Prop := xs.length = k * 7 ∧ ∀ j (h : j < l.length), j < k → xs[j * 7 + 1]? = some (.int .i64 l[j].x) ∧ xs[j * 7 + 2]? = some (.int .i64 l[j].y) ∧ xs[j * 7 + 3]? = some (.int .i64 l[j].h) ∧ xs[j * 7 + 4]? = some (.int .i64 l[j].j) ∧ xs[j * 7 + 5]? = some (.int .i64 l[j].b)
theorem CpOk.nil (l : List Crn) : CpOk l 0 [] := ⟨rfl, fun _ _ h => absurd h (by omega)⟩
theorem CpOk.next {l : List Crn} {k : Nat} {xs : List Value} (h : CpOk l k xs) {c : Crn} (hk : k < l.length) (hc : l[k] = c) (u : Value) : CpOk l (k + 1) (xs ++ [.string c.nm, .int .i64 c.x, .int .i64 c.y, .int .i64 c.h, .int .i64 c.j, .int .i64 c.b, u]) := by
  obtain ⟨h1, h2⟩ := h
  refine ⟨by rw [List.length_append, h1]; simp; omega, fun j hj hjk => ?_⟩
  rcases Nat.lt_or_ge j k with e | e
  · obtain ⟨a1, a2, a3, a4, a5⟩ := h2 j hj e
    refine ⟨?_, ?_, ?_, ?_, ?_⟩ <;> (rw [List.getElem?_append_left (by omega)]; assumption)
  · obtain rfl : j = k := by omega
    rw [hc]
    refine ⟨?_, ?_, ?_, ?_, ?_⟩ <;> (rw [List.getElem?_append_right (by omega), h1]; simp only [Nat.add_sub_cancel_left]; rfl)
/-- How memory stands when k cranes are copied; q: the result's block, q + 1: the copy's. -/
def CpS (q : Nat) (l : List Crn) (k : Nat) (W : World) : Prop := ∃ Av cv xs, Box W (q + 1) [.slice Av k cv] ∧ Fz W (q + 1) ∧ Box W q [.slice none 0 0] ∧ Fz W q ∧ W.ownsRow (q + 2) 45 7 (.slice Av k cv) k xs ∧ CpOk l k xs ∧ q + 2 ≤ W.heap.size
theorem rowB {w w' : World} {B q k m : Nat} {Av : Option Addr} {cv : Nat} {xs : List Value} {T : TypeId} (h : w.ownsRow q T m (.slice Av k cv) k xs) (hb : Below B w w') (hB : w.heap.size ≤ B) : w'.ownsRow q T m (.slice Av k cv) k xs := by
  rcases h with ⟨h1, h2 | ⟨g, cap, cur, hv, hg, hh, h3⟩⟩
  · exact ⟨h1, .inl h2⟩
  · refine ⟨h1, .inr ⟨g, cap, cur, hv, hg, ?_, h3⟩⟩
    have hlt : g < w.heap.size := by
      rcases Nat.lt_or_ge g w.heap.size with e | e
      · exact e
      · rw [Array.getElem?_eq_none e] at hh; cases hh
    rw [hb.block g (by omega)]; exact hh
theorem rowPut {w : World} {q k m : Nat} {v u : Value} {a : Addr} {xs : List Value} {T : TypeId} (h : w.ownsRow q T m v k xs) (ha : a.block < q) : (w.setCell a u).ownsRow q T m v k xs := by
  rcases h with ⟨h1, h2 | ⟨g, cap, cur, hv, hg, hh, h3⟩⟩
  · exact ⟨h1, .inl h2⟩
  · exact ⟨h1, .inr ⟨g, cap, cur, hv, hg, by rw [Below.heap_setCell _ _ _ _ (by omega)]; exact hh, h3⟩⟩

theorem one7 {nm : ByteArray} {x y h j bk : Int} {u : Value} (hu : u.oneCell' = true) : ∀ z ∈ ([.string nm, .int .i64 x, .int .i64 y, .int .i64 h, .int .i64 j, .int .i64 bk, u] : List Value), z.oneCell' = true := by
  intro z hz
  simp only [List.mem_cons, List.not_mem_nil, or_false] at hz
  rcases hz with rfl | rfl | rfl | rfl | rfl | rfl | rfl
  all_goals first | rfl | exact hu
theorem row_block {w : World} {q k m : Nat} {v : Value} {xs : List Value} {T : TypeId} (h : w.ownsRow q T m v k xs) : ∀ g, v.ownBlock = some g → q ≤ g := fun g hg => (h.lt g hg).1

set_option maxRecDepth 100000 in
set_option maxHeartbeats 4000000 in
theorem l04Copy_any {bs n c lo hi : Nat} {A : Option Addr} {own : Bool} {l : List Crn} (hs : siteB l = true) {w : World} (hbs : bs < w.heap.size) (hsc : w.cell? ⟨bs, 0, none⟩ = some (.slice A n c)) (hr : RdC w lo hi own A n l) (hhi : hi ≤ w.heap.size) :
    Calls Tryz.prog 11 #[.pointer (some ⟨bs, 0, none⟩)] w fun e w' => ∃ g c', e = .returned (.agg #[.slice (some ⟨g, 0, none⟩) n c']) ∧ w.heap.size ≤ g ∧ g < w'.heap.size ∧ (∀ k (hk : k < l.length), NmC w' g (k * 7) l[k] l[k].h) ∧ (∀ i, w'.frozen? ⟨g, i, none⟩ = false) ∧ Below w.heap.size w w' := by
  obtain ⟨i0, hi0, hz0, hz1, hz2⟩ := info_parts infoCrane
  have I := hide (And.intro hi0 (And.intro hz0 (And.intro hz1 hz2)))
  clear hi0 hz0 hz1 hz2
  have hcr := (siteB_cr hs).1
  have hl6 := (siteB_cr hs).2.2
  have hl1 := (siteB_cr hs).2.1
  have HCR := hide hcr
  have HR := hide hr
  have HLEN := hide hr.length
  rw [hr.length] at hl6 hl1
  have HS := hide hsc
  clear hcr hs hr hsc
  go_enter Tryz.func11, Tryz.ntmps11
  go_wp2_with fail
  obtain ⟨W0, hW0⟩ : ∃ W0 : World, W0 = ((w.alloc (.cells #[.slice none 0 0] 30)).alloc (.cells #[.slice none 0 0] 30)) := ⟨_, rfl⟩
  rw [← hW0]
  have hB0 : Below w.heap.size w W0 := by rw [hW0]; exact ((Below.refl _ _).alloc (Nat.le_refl _) _).alloc (by simp) _
  have hN0 : CpS w.heap.size l 0 W0 := ⟨none, 0, [], by rw [hW0]; exact box_at _ _ _ _ (by simp), by rw [hW0]; exact fz_at _ _ _ _ (by simp), by rw [hW0]; exact (box_at _ _ _ _ (by simp)).alloc (by simp) _, by rw [hW0]; exact (fz_at _ _ _ _ (by simp)).alloc (by simp) _, World.ownsRow_nil _ _ _ _, CpOk.nil l, by rw [hW0]; simp⟩
  have HN0 := hide hN0
  clear hW0 hN0
  go_loopw [4] (fun i wr => ∃ k : Nat, k ≤ n ∧ i = .int .i64 k ∧ Hid (CpS w.heap.size l k wr) ∧ Below w.heap.size w wr) (fun i _ => n - (intOf i).toNat)
  case atStart => exact ⟨0, by omega, rfl, HN0, hB0⟩
  case round =>
    clear HN0 hB0
    obtain ⟨k, hk, rfl, HN, hbr⟩ := hrel
    have hsz := hbr.size
    have lks := (hbr.cell (p := ⟨bs, 0, none⟩) hbs).trans HS.out
    by_cases hlt : k < n
    · have hil : k < l.length := by rw [HLEN.out]; exact hlt
      have zk0 : (0 : Int) ≤ (k : Int) := by omega
      have zk1 : (k : Int) < (n : Int) := by omega
      obtain ⟨Av, cv, xs, bO, fO, bR, fR, hrow, hok, hq2⟩ := HN.out
      clear HN
      obtain ⟨cc, hcc⟩ : ∃ cc, l[k] = cc := ⟨_, rfl⟩
      have HCC := hide hcc
      have HKL := hide hil
      obtain ⟨b, off, hA, hb1, hb2, hat⟩ := HR.out.2 (by omega)
      obtain ⟨Ai, ci, hcell, hm, hrd, _⟩ := hat k hil
      rw [hcc] at hcell hm hrd
      subst hA
      have hch := (crB_true (show crB cc = true from hcc ▸ HCR.out _ (List.getElem_mem hil))).2.2.2.2.2.1
      have hc1 := (chB_true hch).2.1
      have hc2 := (chB_true hch).2.2
      clear hch hcc hat
      obtain ⟨nm, x, y, h, j, bk, ch⟩ := cc
      obtain ⟨wd, hwd⟩ : ∃ wd, World.drew wr = wd := ⟨_, rfl⟩
      have hbd : Below w.heap.size w wd := by rw [← hwd]; exact hbr.trans (Joins.below_draws _ _ 1)
      have hzd : wd.heap.size = wr.heap.size := by rw [← hwd]; rfl
      have HBO := hide (show Box wd (w.heap.size + 1) [.slice Av k cv] by rw [← hwd]; exact bO)
      have HFO := hide (show Fz wd (w.heap.size + 1) by rw [← hwd]; exact fO)
      have HBR := hide (show Box wd w.heap.size [.slice none 0 0] by rw [← hwd]; exact bR)
      have HFR := hide (show Fz wd w.heap.size by rw [← hwd]; exact fR)
      have HROW := hide (show wd.ownsRow (w.heap.size + 2) 45 7 (.slice Av k cv) k xs by rw [← hwd]; exact hrow)
      have HOK := hide hok
      have HCALL := hide (l04Own_any b (off + k * 7) ⟨nm, x, y, h, j, bk, ch⟩ Ai ci lo hi hc1 hc2 wd (by omega) (fun i v hv => (hbd.cell (p := ⟨b, off + k * 7 + i, none⟩) (by show b < _; omega)).trans (hcell i v hv)) (hrd.below hbd hhi) (by omega))
      have cO := HBO.out 0 _ rfl
      have cS := (hbd.cell (p := ⟨bs, 0, none⟩) hbs).trans HS.out
      have HWD := hide hwd
      clear bO fO bR fR hrow hok hcell hm hrd hwd hc1 hc2
      go_upto_region 5 with fail
      refine wp_region_any (by kernel_rfl) ?_
      try (change wpAny _ _ _ _ _ _ _ (World.drew _))
      rw [HWD.out]
      clear HWD lks
      refine wpAny_take (i := 0) (v := ?_) rfl (by kernel_rfl) (by kernel_rfl) (by kernel_rfl) (fun _ _ _ h => h) (Or.inl ⟨by rfl, ?_⟩) ?_
      rotate_left
      · (intro w; go_simp; try (with_reducible rfl))
      (try simp only [Act.put, List.getElem_toArray, List.getElem_cons_succ, List.getElem_cons_zero, List.setIfInBounds_toArray, List.set_cons_succ, List.set_cons_zero])
      refine wpAny_take (i := 2) (v := ?_) rfl (by kernel_rfl) (by kernel_rfl) (by kernel_rfl) (fun _ _ _ h => h) (Or.inl ⟨by rfl, ?_⟩) ?_
      rotate_left
      · (intro w; go_simp; try (with_reducible rfl))
      (try simp only [Act.put, List.getElem_toArray, List.getElem_cons_succ, List.getElem_cons_zero, List.setIfInBounds_toArray, List.set_cons_succ, List.set_cons_zero])
      refine wpAny_take (i := 3) (v := ?_) rfl (by kernel_rfl) (by kernel_rfl) (by kernel_rfl) (fun _ _ _ h => h) (Or.inl ⟨by rfl, ?_⟩) ?_
      rotate_left
      · (intro w; go_simp; try (with_reducible rfl))
      (try simp only [Act.put, List.getElem_toArray, List.getElem_cons_succ, List.getElem_cons_zero, List.setIfInBounds_toArray, List.set_cons_succ, List.set_cons_zero])
      refine wpAny_take (i := 4) (v := ?_) rfl (by kernel_rfl) (by kernel_rfl) (by kernel_rfl) (fun _ _ _ h => h) (Or.inl ⟨by rfl, ?_⟩) ?_
      rotate_left
      · (intro w; go_simp; try (with_reducible rfl))
      (try simp only [Act.put, List.getElem_toArray, List.getElem_cons_succ, List.getElem_cons_zero, List.setIfInBounds_toArray, List.set_cons_succ, List.set_cons_zero])
      refine wpAny_take (i := 6) (v := ?_) rfl (by kernel_rfl) (by kernel_rfl) (by kernel_rfl) (fun _ _ _ h => h) (Or.inl ⟨by rfl, ?_⟩) ?_
      rotate_left
      · (intro w; go_simp; try (with_reducible rfl))
      (try simp only [Act.put, List.getElem_toArray, List.getElem_cons_succ, List.getElem_cons_zero, List.setIfInBounds_toArray, List.set_cons_succ, List.set_cons_zero])
      refine wpAny_ready (rs := [1, 5]) (by kernel_rfl) (by simp) ?_
      refine (AllReady.cons rfl (fun KQ hKQ => ?_) (AllReady.cons rfl (fun KQ hKQ => ?_) AllReady.nil))
      · go_simp
        refine hKQ _ _ ?_
        clear hKQ KQ
        (try simp only [Act.put, List.getElem_toArray, List.getElem_cons_succ, List.getElem_cons_zero, List.setIfInBounds_toArray, List.set_cons_succ, List.set_cons_zero])
        refine wpAny_ready (rs := [5]) (by kernel_rfl) (by simp) ?_
        refine (AllReady.cons rfl (fun KQ hKQ => ?_) AllReady.nil)
        go_simp
        refine hKQ _ _ ?_
        clear hKQ KQ
        (try simp only [Act.put, List.getElem_toArray, List.getElem_cons_succ, List.getElem_cons_zero, List.setIfInBounds_toArray, List.set_cons_succ, List.set_cons_zero])
        refine wpAny_take (i := 7) (v := ?_) rfl (by kernel_rfl) (by kernel_rfl) (by kernel_rfl) (fun _ _ _ h => h) (Or.inl ⟨by rfl, ?_⟩) ?_
        rotate_left
        · (intro w; go_simp; try (with_reducible rfl))
        (try simp only [Act.put, List.getElem_toArray, List.getElem_cons_succ, List.getElem_cons_zero, List.setIfInBounds_toArray, List.set_cons_succ, List.set_cons_zero])
        refine wpAny_ready (rs := [8]) (by kernel_rfl) (by simp) ?_
        refine (AllReady.cons rfl (fun KQ hKQ => ?_) AllReady.nil)
        go_simp
        refine HCALL.out.mono ?_
        rintro e w3 ⟨u, rfl, hu, hb3⟩
        have HU := hide hu
        have HB3 := hide hb3
        have hz3 := hb3.size
        replace cO := (hb3.cell (p := ⟨w.heap.size + 1, 0, none⟩) (by show w.heap.size + 1 < _; omega)).trans cO
        have cA : ∀ o' : Obj, (w3.alloc o').cell? ⟨w.heap.size + 1, 0, none⟩ = some (.slice Av k cv) := fun o' => (World.cell?_alloc_lt w3 o' ⟨w.heap.size + 1, 0, none⟩ (by show w.heap.size + 1 < _; omega)).trans cO
        clear hu hb3 HCALL cS
        refine hKQ _ _ ?_
        clear hKQ KQ
        (try simp only [Act.put, List.getElem_toArray, List.getElem_cons_succ, List.getElem_cons_zero, List.setIfInBounds_toArray, List.set_cons_succ, List.set_cons_zero])
        refine wpAny_ready (rs := [9]) (by kernel_rfl) (by simp) ?_
        refine (AllReady.cons rfl (fun KQ hKQ => ?_) AllReady.nil)
        go_simp
        refine hKQ _ _ ?_
        clear hKQ KQ
        (try simp only [Act.put, List.getElem_toArray, List.getElem_cons_succ, List.getElem_cons_zero, List.setIfInBounds_toArray, List.set_cons_succ, List.set_cons_zero])
        refine wpAny_ready (rs := [10]) (by kernel_rfl) (by simp) ?_
        refine (AllReady.cons rfl (fun KQ hKQ => ?_) AllReady.nil)
        have H1 := hide (show (w3.alloc (.cells #[.string nm, .int .i64 x, .int .i64 y, .int .i64 h, .int .i64 j, .int .i64 bk, u] 45)).ownsRow (w.heap.size + 2) 45 7 (.slice Av k cv) k xs from rowB (rowB HROW.out HB3.out (Nat.le_refl _)) ((Below.refl _ _).alloc (Nat.le_refl w3.heap.size) _) (Nat.le_refl _))
        refine step_append_lies _ (by rfl) (.tmp 16) (.tmp 24) 28 (by rfl) (w.heap.size + 2) 45 i0 (.agg #[.string ⟨#[]⟩, .int .i64 0, .int .i64 0, .int .i64 0, .int .i64 0, .int .i64 0, .slice none 0 0]) 7 80 Tryz.underlying28 I.out.1 I.out.2.1 I.out.2.2.1 I.out.2.2.2 rfl (by decide) (.slice Av k cv) k xs (by rfl) H1.out ⟨w3.heap.size, 0, none⟩ 1 1 [.string nm, .int .i64 x, .int .i64 y, .int .i64 h, .int .i64 j, .int .i64 bk, u] (by rfl) rfl (news_new _ _ _ _ rfl) (one7 HU.out) (by decide) (by unfold maxLen; omega) (by omega) (by simp; omega) _ rfl ?_
        intro gg cap wn hown' hgrow hat hlt'
        have HO := hide hown'
        have HG := hide hgrow
        have hblk := row_block HROW.out
        have hne1 : some (w.heap.size + 1) ≠ (Value.slice Av k cv).ownBlock := fun e => by have := hblk _ e.symm; omega
        have hne0 : some w.heap.size ≠ (Value.slice Av k cv).ownBlock := fun e => by have := hblk _ e.symm; omega
        have bO := far_box hgrow ((HBO.out.below HB3.out (by omega)).alloc (by omega) _) (by simp; omega) hne1
        have fO := far_fz hgrow ((HFO.out.below HB3.out (by omega)).alloc (by omega) _) (by simp; omega) hne1
        have bR := far_box hgrow ((HBR.out.below HB3.out (by omega)).alloc (by omega) _) (by simp; omega) hne0
        have fR := far_fz hgrow ((HFR.out.below HB3.out (by omega)).alloc (by omega) _) (by simp; omega) hne0
        have c1 := bO 0 _ rfl
        have f1 := fO 0
        have HBO2 := hide bO
        have HFO2 := hide fO
        have HBR2 := hide bR
        have HFR2 := hide fR
        have hzn := hgrow.size
        have hzn2 : w3.heap.size ≤ wn.heap.size := by simp at hzn; omega
        clear hown' hgrow hat cA cO bO fO bR fR hzn
        refine hKQ _ _ ?_
        clear hKQ KQ
        (try simp only [Act.put, List.getElem_toArray, List.getElem_cons_succ, List.getElem_cons_zero, List.setIfInBounds_toArray, List.set_cons_succ, List.set_cons_zero])
        refine wpAny_take (i := 11) (v := ?_) rfl (by kernel_rfl) (by kernel_rfl) (by kernel_rfl) (fun _ _ _ h => h) (Or.inl ⟨by rfl, ?_⟩) ?_
        rotate_left
        · (intro w; go_simp; try (with_reducible rfl))
        (try simp only [Act.put, List.getElem_toArray, List.getElem_cons_succ, List.getElem_cons_zero, List.setIfInBounds_toArray, List.set_cons_succ, List.set_cons_zero])
        refine wpAny_ready (rs := [12]) (by kernel_rfl) (by simp) ?_
        refine (AllReady.cons rfl (fun KQ hKQ => ?_) AllReady.nil)
        go_simp
        have hN : CpS w.heap.size l (k + 1) (wn.setCell ⟨w.heap.size + 1, 0, none⟩ (.slice (some ⟨gg, 0, none⟩) (k + 1) cap)) := ⟨_, _, xs ++ [.string nm, .int .i64 x, .int .i64 y, .int .i64 h, .int .i64 j, .int .i64 bk, u], HBO2.out.put 0 _ (by simp), HFO2.out.set _ _, HBR2.out.far _ _ (by simp), HFR2.out.set _ _, rowPut HO.out (by simp), HOK.out.next HKL.out HCC.out u, by simp [World.setCell]; omega⟩
        have hB : Below w.heap.size w (wn.setCell ⟨w.heap.size + 1, 0, none⟩ (.slice (some ⟨gg, 0, none⟩) (k + 1) cap)) := ((((hbd.trans (HB3.out.mono (by omega))).alloc (by omega) _).grown HG.out (by simp; omega) (fun g hg => by have := hblk g hg; omega)).setCell (by simp) _)
        have HN := hide hN
        clear hN c1 f1
        refine hKQ _ _ ?_
        clear hKQ KQ
        (try simp only [Act.put, List.getElem_toArray, List.getElem_cons_succ, List.getElem_cons_zero, List.setIfInBounds_toArray, List.set_cons_succ, List.set_cons_zero])
        generalize (wn.setCell ⟨w.heap.size + 1, 0, none⟩ (.slice (some ⟨gg, 0, none⟩) (k + 1) cap)) = w6 at *
        refine wpAny_done (by kernel_rfl) ?_ _
        go_wp2_with fail
        go_roundw
        case rel => exact ⟨k + 1, by omega, by go_num, HN, hB⟩
        case measure => simp [intOf]; omega
      · go_simp
        refine hKQ _ _ ?_
        clear hKQ KQ
        (try simp only [Act.put, List.getElem_toArray, List.getElem_cons_succ, List.getElem_cons_zero, List.setIfInBounds_toArray, List.set_cons_succ, List.set_cons_zero])
        refine wpAny_take (i := 7) (v := ?_) rfl (by kernel_rfl) (by kernel_rfl) (by kernel_rfl) (fun _ _ _ h => h) (Or.inl ⟨by rfl, ?_⟩) ?_
        rotate_left
        · (intro w; go_simp; try (with_reducible rfl))
        (try simp only [Act.put, List.getElem_toArray, List.getElem_cons_succ, List.getElem_cons_zero, List.setIfInBounds_toArray, List.set_cons_succ, List.set_cons_zero])
        refine wpAny_ready (rs := [1, 8]) (by kernel_rfl) (by simp) ?_
        refine (AllReady.cons rfl (fun KQ hKQ => ?_) (AllReady.cons rfl (fun KQ hKQ => ?_) AllReady.nil))
        · go_simp
          refine hKQ _ _ ?_
          clear hKQ KQ
          (try simp only [Act.put, List.getElem_toArray, List.getElem_cons_succ, List.getElem_cons_zero, List.setIfInBounds_toArray, List.set_cons_succ, List.set_cons_zero])
          refine wpAny_ready (rs := [8]) (by kernel_rfl) (by simp) ?_
          refine (AllReady.cons rfl (fun KQ hKQ => ?_) AllReady.nil)
          go_simp
          refine HCALL.out.mono ?_
          rintro e w3 ⟨u, rfl, hu, hb3⟩
          have HU := hide hu
          have HB3 := hide hb3
          have hz3 := hb3.size
          replace cO := (hb3.cell (p := ⟨w.heap.size + 1, 0, none⟩) (by show w.heap.size + 1 < _; omega)).trans cO
          have cA : ∀ o' : Obj, (w3.alloc o').cell? ⟨w.heap.size + 1, 0, none⟩ = some (.slice Av k cv) := fun o' => (World.cell?_alloc_lt w3 o' ⟨w.heap.size + 1, 0, none⟩ (by show w.heap.size + 1 < _; omega)).trans cO
          clear hu hb3 HCALL cS
          refine hKQ _ _ ?_
          clear hKQ KQ
          (try simp only [Act.put, List.getElem_toArray, List.getElem_cons_succ, List.getElem_cons_zero, List.setIfInBounds_toArray, List.set_cons_succ, List.set_cons_zero])
          refine wpAny_ready (rs := [9]) (by kernel_rfl) (by simp) ?_
          refine (AllReady.cons rfl (fun KQ hKQ => ?_) AllReady.nil)
          go_simp
          refine hKQ _ _ ?_
          clear hKQ KQ
          (try simp only [Act.put, List.getElem_toArray, List.getElem_cons_succ, List.getElem_cons_zero, List.setIfInBounds_toArray, List.set_cons_succ, List.set_cons_zero])
          refine wpAny_ready (rs := [10]) (by kernel_rfl) (by simp) ?_
          refine (AllReady.cons rfl (fun KQ hKQ => ?_) AllReady.nil)
          have H1 := hide (show (w3.alloc (.cells #[.string nm, .int .i64 x, .int .i64 y, .int .i64 h, .int .i64 j, .int .i64 bk, u] 45)).ownsRow (w.heap.size + 2) 45 7 (.slice Av k cv) k xs from rowB (rowB HROW.out HB3.out (Nat.le_refl _)) ((Below.refl _ _).alloc (Nat.le_refl w3.heap.size) _) (Nat.le_refl _))
          refine step_append_lies _ (by rfl) (.tmp 16) (.tmp 24) 28 (by rfl) (w.heap.size + 2) 45 i0 (.agg #[.string ⟨#[]⟩, .int .i64 0, .int .i64 0, .int .i64 0, .int .i64 0, .int .i64 0, .slice none 0 0]) 7 80 Tryz.underlying28 I.out.1 I.out.2.1 I.out.2.2.1 I.out.2.2.2 rfl (by decide) (.slice Av k cv) k xs (by rfl) H1.out ⟨w3.heap.size, 0, none⟩ 1 1 [.string nm, .int .i64 x, .int .i64 y, .int .i64 h, .int .i64 j, .int .i64 bk, u] (by rfl) rfl (news_new _ _ _ _ rfl) (one7 HU.out) (by decide) (by unfold maxLen; omega) (by omega) (by simp; omega) _ rfl ?_
          intro gg cap wn hown' hgrow hat hlt'
          have HO := hide hown'
          have HG := hide hgrow
          have hblk := row_block HROW.out
          have hne1 : some (w.heap.size + 1) ≠ (Value.slice Av k cv).ownBlock := fun e => by have := hblk _ e.symm; omega
          have hne0 : some w.heap.size ≠ (Value.slice Av k cv).ownBlock := fun e => by have := hblk _ e.symm; omega
          have bO := far_box hgrow ((HBO.out.below HB3.out (by omega)).alloc (by omega) _) (by simp; omega) hne1
          have fO := far_fz hgrow ((HFO.out.below HB3.out (by omega)).alloc (by omega) _) (by simp; omega) hne1
          have bR := far_box hgrow ((HBR.out.below HB3.out (by omega)).alloc (by omega) _) (by simp; omega) hne0
          have fR := far_fz hgrow ((HFR.out.below HB3.out (by omega)).alloc (by omega) _) (by simp; omega) hne0
          have c1 := bO 0 _ rfl
          have f1 := fO 0
          have HBO2 := hide bO
          have HFO2 := hide fO
          have HBR2 := hide bR
          have HFR2 := hide fR
          have hzn := hgrow.size
          have hzn2 : w3.heap.size ≤ wn.heap.size := by simp at hzn; omega
          clear hown' hgrow hat cA cO bO fO bR fR hzn
          refine hKQ _ _ ?_
          clear hKQ KQ
          (try simp only [Act.put, List.getElem_toArray, List.getElem_cons_succ, List.getElem_cons_zero, List.setIfInBounds_toArray, List.set_cons_succ, List.set_cons_zero])
          refine wpAny_take (i := 11) (v := ?_) rfl (by kernel_rfl) (by kernel_rfl) (by kernel_rfl) (fun _ _ _ h => h) (Or.inl ⟨by rfl, ?_⟩) ?_
          rotate_left
          · (intro w; go_simp; try (with_reducible rfl))
          (try simp only [Act.put, List.getElem_toArray, List.getElem_cons_succ, List.getElem_cons_zero, List.setIfInBounds_toArray, List.set_cons_succ, List.set_cons_zero])
          refine wpAny_ready (rs := [12]) (by kernel_rfl) (by simp) ?_
          refine (AllReady.cons rfl (fun KQ hKQ => ?_) AllReady.nil)
          go_simp
          have hN : CpS w.heap.size l (k + 1) (wn.setCell ⟨w.heap.size + 1, 0, none⟩ (.slice (some ⟨gg, 0, none⟩) (k + 1) cap)) := ⟨_, _, xs ++ [.string nm, .int .i64 x, .int .i64 y, .int .i64 h, .int .i64 j, .int .i64 bk, u], HBO2.out.put 0 _ (by simp), HFO2.out.set _ _, HBR2.out.far _ _ (by simp), HFR2.out.set _ _, rowPut HO.out (by simp), HOK.out.next HKL.out HCC.out u, by simp [World.setCell]; omega⟩
          have hB : Below w.heap.size w (wn.setCell ⟨w.heap.size + 1, 0, none⟩ (.slice (some ⟨gg, 0, none⟩) (k + 1) cap)) := ((((hbd.trans (HB3.out.mono (by omega))).alloc (by omega) _).grown HG.out (by simp; omega) (fun g hg => by have := hblk g hg; omega)).setCell (by simp) _)
          have HN := hide hN
          clear hN c1 f1
          refine hKQ _ _ ?_
          clear hKQ KQ
          (try simp only [Act.put, List.getElem_toArray, List.getElem_cons_succ, List.getElem_cons_zero, List.setIfInBounds_toArray, List.set_cons_succ, List.set_cons_zero])
          generalize (wn.setCell ⟨w.heap.size + 1, 0, none⟩ (.slice (some ⟨gg, 0, none⟩) (k + 1) cap)) = w6 at *
          refine wpAny_done (by kernel_rfl) ?_ _
          go_wp2_with fail
          go_roundw
          case rel => exact ⟨k + 1, by omega, by go_num, HN, hB⟩
          case measure => simp [intOf]; omega
        · go_simp
          refine HCALL.out.mono ?_
          rintro e w3 ⟨u, rfl, hu, hb3⟩
          have HU := hide hu
          have HB3 := hide hb3
          have hz3 := hb3.size
          replace cO := (hb3.cell (p := ⟨w.heap.size + 1, 0, none⟩) (by show w.heap.size + 1 < _; omega)).trans cO
          have cA : ∀ o' : Obj, (w3.alloc o').cell? ⟨w.heap.size + 1, 0, none⟩ = some (.slice Av k cv) := fun o' => (World.cell?_alloc_lt w3 o' ⟨w.heap.size + 1, 0, none⟩ (by show w.heap.size + 1 < _; omega)).trans cO
          clear hu hb3 HCALL cS
          refine hKQ _ _ ?_
          clear hKQ KQ
          (try simp only [Act.put, List.getElem_toArray, List.getElem_cons_succ, List.getElem_cons_zero, List.setIfInBounds_toArray, List.set_cons_succ, List.set_cons_zero])
          refine wpAny_ready (rs := [1, 9]) (by kernel_rfl) (by simp) ?_
          refine (AllReady.cons rfl (fun KQ hKQ => ?_) (AllReady.cons rfl (fun KQ hKQ => ?_) AllReady.nil))
          · go_simp
            refine hKQ _ _ ?_
            clear hKQ KQ
            (try simp only [Act.put, List.getElem_toArray, List.getElem_cons_succ, List.getElem_cons_zero, List.setIfInBounds_toArray, List.set_cons_succ, List.set_cons_zero])
            refine wpAny_ready (rs := [9]) (by kernel_rfl) (by simp) ?_
            refine (AllReady.cons rfl (fun KQ hKQ => ?_) AllReady.nil)
            go_simp
            refine hKQ _ _ ?_
            clear hKQ KQ
            (try simp only [Act.put, List.getElem_toArray, List.getElem_cons_succ, List.getElem_cons_zero, List.setIfInBounds_toArray, List.set_cons_succ, List.set_cons_zero])
            refine wpAny_ready (rs := [10]) (by kernel_rfl) (by simp) ?_
            refine (AllReady.cons rfl (fun KQ hKQ => ?_) AllReady.nil)
            have H1 := hide (show (w3.alloc (.cells #[.string nm, .int .i64 x, .int .i64 y, .int .i64 h, .int .i64 j, .int .i64 bk, u] 45)).ownsRow (w.heap.size + 2) 45 7 (.slice Av k cv) k xs from rowB (rowB HROW.out HB3.out (Nat.le_refl _)) ((Below.refl _ _).alloc (Nat.le_refl w3.heap.size) _) (Nat.le_refl _))
            refine step_append_lies _ (by rfl) (.tmp 16) (.tmp 24) 28 (by rfl) (w.heap.size + 2) 45 i0 (.agg #[.string ⟨#[]⟩, .int .i64 0, .int .i64 0, .int .i64 0, .int .i64 0, .int .i64 0, .slice none 0 0]) 7 80 Tryz.underlying28 I.out.1 I.out.2.1 I.out.2.2.1 I.out.2.2.2 rfl (by decide) (.slice Av k cv) k xs (by rfl) H1.out ⟨w3.heap.size, 0, none⟩ 1 1 [.string nm, .int .i64 x, .int .i64 y, .int .i64 h, .int .i64 j, .int .i64 bk, u] (by rfl) rfl (news_new _ _ _ _ rfl) (one7 HU.out) (by decide) (by unfold maxLen; omega) (by omega) (by simp; omega) _ rfl ?_
            intro gg cap wn hown' hgrow hat hlt'
            have HO := hide hown'
            have HG := hide hgrow
            have hblk := row_block HROW.out
            have hne1 : some (w.heap.size + 1) ≠ (Value.slice Av k cv).ownBlock := fun e => by have := hblk _ e.symm; omega
            have hne0 : some w.heap.size ≠ (Value.slice Av k cv).ownBlock := fun e => by have := hblk _ e.symm; omega
            have bO := far_box hgrow ((HBO.out.below HB3.out (by omega)).alloc (by omega) _) (by simp; omega) hne1
            have fO := far_fz hgrow ((HFO.out.below HB3.out (by omega)).alloc (by omega) _) (by simp; omega) hne1
            have bR := far_box hgrow ((HBR.out.below HB3.out (by omega)).alloc (by omega) _) (by simp; omega) hne0
            have fR := far_fz hgrow ((HFR.out.below HB3.out (by omega)).alloc (by omega) _) (by simp; omega) hne0
            have c1 := bO 0 _ rfl
            have f1 := fO 0
            have HBO2 := hide bO
            have HFO2 := hide fO
            have HBR2 := hide bR
            have HFR2 := hide fR
            have hzn := hgrow.size
            have hzn2 : w3.heap.size ≤ wn.heap.size := by simp at hzn; omega
            clear hown' hgrow hat cA cO bO fO bR fR hzn
            refine hKQ _ _ ?_
            clear hKQ KQ
            (try simp only [Act.put, List.getElem_toArray, List.getElem_cons_succ, List.getElem_cons_zero, List.setIfInBounds_toArray, List.set_cons_succ, List.set_cons_zero])
            refine wpAny_take (i := 11) (v := ?_) rfl (by kernel_rfl) (by kernel_rfl) (by kernel_rfl) (fun _ _ _ h => h) (Or.inl ⟨by rfl, ?_⟩) ?_
            rotate_left
            · (intro w; go_simp; try (with_reducible rfl))
            (try simp only [Act.put, List.getElem_toArray, List.getElem_cons_succ, List.getElem_cons_zero, List.setIfInBounds_toArray, List.set_cons_succ, List.set_cons_zero])
            refine wpAny_ready (rs := [12]) (by kernel_rfl) (by simp) ?_
            refine (AllReady.cons rfl (fun KQ hKQ => ?_) AllReady.nil)
            go_simp
            have hN : CpS w.heap.size l (k + 1) (wn.setCell ⟨w.heap.size + 1, 0, none⟩ (.slice (some ⟨gg, 0, none⟩) (k + 1) cap)) := ⟨_, _, xs ++ [.string nm, .int .i64 x, .int .i64 y, .int .i64 h, .int .i64 j, .int .i64 bk, u], HBO2.out.put 0 _ (by simp), HFO2.out.set _ _, HBR2.out.far _ _ (by simp), HFR2.out.set _ _, rowPut HO.out (by simp), HOK.out.next HKL.out HCC.out u, by simp [World.setCell]; omega⟩
            have hB : Below w.heap.size w (wn.setCell ⟨w.heap.size + 1, 0, none⟩ (.slice (some ⟨gg, 0, none⟩) (k + 1) cap)) := ((((hbd.trans (HB3.out.mono (by omega))).alloc (by omega) _).grown HG.out (by simp; omega) (fun g hg => by have := hblk g hg; omega)).setCell (by simp) _)
            have HN := hide hN
            clear hN c1 f1
            refine hKQ _ _ ?_
            clear hKQ KQ
            (try simp only [Act.put, List.getElem_toArray, List.getElem_cons_succ, List.getElem_cons_zero, List.setIfInBounds_toArray, List.set_cons_succ, List.set_cons_zero])
            generalize (wn.setCell ⟨w.heap.size + 1, 0, none⟩ (.slice (some ⟨gg, 0, none⟩) (k + 1) cap)) = w6 at *
            refine wpAny_done (by kernel_rfl) ?_ _
            go_wp2_with fail
            go_roundw
            case rel => exact ⟨k + 1, by omega, by go_num, HN, hB⟩
            case measure => simp [intOf]; omega
          · go_simp
            refine hKQ _ _ ?_
            clear hKQ KQ
            (try simp only [Act.put, List.getElem_toArray, List.getElem_cons_succ, List.getElem_cons_zero, List.setIfInBounds_toArray, List.set_cons_succ, List.set_cons_zero])
            refine wpAny_ready (rs := [1]) (by kernel_rfl) (by simp) ?_
            refine (AllReady.cons rfl (fun KQ hKQ => ?_) AllReady.nil)
            go_simp
            refine hKQ _ _ ?_
            clear hKQ KQ
            (try simp only [Act.put, List.getElem_toArray, List.getElem_cons_succ, List.getElem_cons_zero, List.setIfInBounds_toArray, List.set_cons_succ, List.set_cons_zero])
            refine wpAny_ready (rs := [10]) (by kernel_rfl) (by simp) ?_
            refine (AllReady.cons rfl (fun KQ hKQ => ?_) AllReady.nil)
            have H1 := hide (show (w3.alloc (.cells #[.string nm, .int .i64 x, .int .i64 y, .int .i64 h, .int .i64 j, .int .i64 bk, u] 45)).ownsRow (w.heap.size + 2) 45 7 (.slice Av k cv) k xs from rowB (rowB HROW.out HB3.out (Nat.le_refl _)) ((Below.refl _ _).alloc (Nat.le_refl w3.heap.size) _) (Nat.le_refl _))
            refine step_append_lies _ (by rfl) (.tmp 16) (.tmp 24) 28 (by rfl) (w.heap.size + 2) 45 i0 (.agg #[.string ⟨#[]⟩, .int .i64 0, .int .i64 0, .int .i64 0, .int .i64 0, .int .i64 0, .slice none 0 0]) 7 80 Tryz.underlying28 I.out.1 I.out.2.1 I.out.2.2.1 I.out.2.2.2 rfl (by decide) (.slice Av k cv) k xs (by rfl) H1.out ⟨w3.heap.size, 0, none⟩ 1 1 [.string nm, .int .i64 x, .int .i64 y, .int .i64 h, .int .i64 j, .int .i64 bk, u] (by rfl) rfl (news_new _ _ _ _ rfl) (one7 HU.out) (by decide) (by unfold maxLen; omega) (by omega) (by simp; omega) _ rfl ?_
            intro gg cap wn hown' hgrow hat hlt'
            have HO := hide hown'
            have HG := hide hgrow
            have hblk := row_block HROW.out
            have hne1 : some (w.heap.size + 1) ≠ (Value.slice Av k cv).ownBlock := fun e => by have := hblk _ e.symm; omega
            have hne0 : some w.heap.size ≠ (Value.slice Av k cv).ownBlock := fun e => by have := hblk _ e.symm; omega
            have bO := far_box hgrow ((HBO.out.below HB3.out (by omega)).alloc (by omega) _) (by simp; omega) hne1
            have fO := far_fz hgrow ((HFO.out.below HB3.out (by omega)).alloc (by omega) _) (by simp; omega) hne1
            have bR := far_box hgrow ((HBR.out.below HB3.out (by omega)).alloc (by omega) _) (by simp; omega) hne0
            have fR := far_fz hgrow ((HFR.out.below HB3.out (by omega)).alloc (by omega) _) (by simp; omega) hne0
            have c1 := bO 0 _ rfl
            have f1 := fO 0
            have HBO2 := hide bO
            have HFO2 := hide fO
            have HBR2 := hide bR
            have HFR2 := hide fR
            have hzn := hgrow.size
            have hzn2 : w3.heap.size ≤ wn.heap.size := by simp at hzn; omega
            clear hown' hgrow hat cA cO bO fO bR fR hzn
            refine hKQ _ _ ?_
            clear hKQ KQ
            (try simp only [Act.put, List.getElem_toArray, List.getElem_cons_succ, List.getElem_cons_zero, List.setIfInBounds_toArray, List.set_cons_succ, List.set_cons_zero])
            refine wpAny_take (i := 11) (v := ?_) rfl (by kernel_rfl) (by kernel_rfl) (by kernel_rfl) (fun _ _ _ h => h) (Or.inl ⟨by rfl, ?_⟩) ?_
            rotate_left
            · (intro w; go_simp; try (with_reducible rfl))
            (try simp only [Act.put, List.getElem_toArray, List.getElem_cons_succ, List.getElem_cons_zero, List.setIfInBounds_toArray, List.set_cons_succ, List.set_cons_zero])
            refine wpAny_ready (rs := [12]) (by kernel_rfl) (by simp) ?_
            refine (AllReady.cons rfl (fun KQ hKQ => ?_) AllReady.nil)
            go_simp
            have hN : CpS w.heap.size l (k + 1) (wn.setCell ⟨w.heap.size + 1, 0, none⟩ (.slice (some ⟨gg, 0, none⟩) (k + 1) cap)) := ⟨_, _, xs ++ [.string nm, .int .i64 x, .int .i64 y, .int .i64 h, .int .i64 j, .int .i64 bk, u], HBO2.out.put 0 _ (by simp), HFO2.out.set _ _, HBR2.out.far _ _ (by simp), HFR2.out.set _ _, rowPut HO.out (by simp), HOK.out.next HKL.out HCC.out u, by simp [World.setCell]; omega⟩
            have hB : Below w.heap.size w (wn.setCell ⟨w.heap.size + 1, 0, none⟩ (.slice (some ⟨gg, 0, none⟩) (k + 1) cap)) := ((((hbd.trans (HB3.out.mono (by omega))).alloc (by omega) _).grown HG.out (by simp; omega) (fun g hg => by have := hblk g hg; omega)).setCell (by simp) _)
            have HN := hide hN
            clear hN c1 f1
            refine hKQ _ _ ?_
            clear hKQ KQ
            (try simp only [Act.put, List.getElem_toArray, List.getElem_cons_succ, List.getElem_cons_zero, List.setIfInBounds_toArray, List.set_cons_succ, List.set_cons_zero])
            generalize (wn.setCell ⟨w.heap.size + 1, 0, none⟩ (.slice (some ⟨gg, 0, none⟩) (k + 1) cap)) = w6 at *
            refine wpAny_done (by kernel_rfl) ?_ _
            go_wp2_with fail
            go_roundw
            case rel => exact ⟨k + 1, by omega, by go_num, HN, hB⟩
            case measure => simp [intOf]; omega
    · have hkn : k = n := by omega
      subst hkn
      obtain ⟨Av, cv, xs, bO, fO, bR, fR, hrow, hok, hq2⟩ := HN.out
      obtain ⟨gv, cp, hv, hg1, hg2⟩ := hrow.form (by omega)
      injection hv with e1 e2 e3
      subst e1 e3
      have HROW := hide hrow
      have c0 := bO 0 _ rfl
      have d0 := bR 0 _ rfl
      have g0 := fR 0
      clear hrow HN
      go_wp2_with fail
      refine bodyPost_ret (v := .agg #[.slice (some ⟨gv, 0, none⟩) k cv]) (by simp [results, Tryz.results11, go_sem, d0]) rfl ⟨gv, ⟨cv, rfl⟩, by omega, by simp [World.setCell]; omega, ?_, ?_, hbr.setCell (Nat.le_refl _) _⟩
      · intro j hj
        obtain ⟨a1, a2, a3, a4, a5⟩ := hok.2 j hj (by rw [← HLEN.out]; exact hj)
        have hjk : j < k := by rw [← HLEN.out]; exact hj
        have hc : ∀ i, i < k * 7 → (wr.setCell ⟨w.heap.size, 0, none⟩ (.slice (some ⟨gv, 0, none⟩) k cv)).cell? ⟨gv, i, none⟩ = xs[i]? := fun i hi => (World.cell?_setCell_far _ _ _ _ (by show w.heap.size ≠ gv; omega)).trans (HROW.out.cellAt i hi)
        exact ⟨by simp [World.setCell]; omega, (hc _ (by omega)).trans a1, (hc _ (by omega)).trans a2, (hc _ (by omega)).trans a3, (hc _ (by omega)).trans a4, (hc _ (by omega)).trans a5⟩
      · intro i
        rw [World.frozen?_setCell]
        exact HROW.out.frozenAt i


end Go.Proofs.YtajjophmngabbaaGreatDoor
