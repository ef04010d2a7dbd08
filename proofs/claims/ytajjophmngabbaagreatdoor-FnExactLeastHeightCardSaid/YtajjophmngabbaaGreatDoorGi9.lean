/-
  The program's LeastHeight: the list of how close each other crane is. No condition but those that each theorem names.
-/
import Derived.Test.YtajjophmngabbaaGreatDoorGi8
import Derived.Test.YtajjophmngabbaaGreatDoorGe8
namespace Go.Proofs.YtajjophmngabbaaGreatDoor
open Go.RowKit
set_option linter.unusedVariables false
set_option linter.unusedSimpArgs false

/-- The cells of a list of closenesses. -/
def cClo (p : Bool × Bool × Bool × Int) : List Value := [.bool p.1, .bool p.2.1, .bool p.2.2.1, .int .i64 p.2.2.2]
def rClo (L : List (Bool × Bool × Bool × Int)) : List Value := rows cClo L
theorem rClo_snoc (L : List (Bool × Bool × Bool × Int)) (bm fi se : Bool) (hh : Int) : rClo (L ++ [(bm, fi, se, hh)]) = rClo L ++ [.bool bm, .bool fi, .bool se, .int .i64 hh] := by simp [rClo, rows, cClo]
theorem infoClo : (Tryz.prog.info? 52).map (fun i => (i.zero, i.size, i.bytes)) = some (some (.agg #[.bool false, .bool false, .bool false, .int .i64 0]), 4, 16) := by kernel_rfl
/-- The variable at block X holds a list of the call's own. -/
def AlM (X : Nat) (L : List (Bool × Bool × Bool × Int)) (W : World) : Prop := ∃ A c n, n = L.length ∧ Box W X [.slice A n c] ∧ Fz W X ∧ W.ownsRow (X + 1) 52 4 (.slice A n c) n (rClo L) ∧ X < W.heap.size
/-- What the closure reads: the site, the index, the distance, the crane at the index, the crane handed in. -/
def SC (bs bi bd b o q n c : Nat) (off : Nat) (m : Nat) (D : Int) (LA LB : List Value) (W : World) : Prop :=
  Box W bs [.slice (some ⟨b, off, none⟩) n c] ∧ Box W bi [.int .i64 (m : Int)] ∧ Box W bd [.int .i64 D] ∧ (∀ i v, LA[i]? = some v → W.cell? ⟨b, o + i, none⟩ = some v) ∧ Box W q LB
theorem SC.keep {bs bi bd b o q n c off m : Nat} {D : Int} {LA LB : List Value} {W W' : World} (h : SC bs bi bd b o q n c off m D LA LB W) (h1 : W'.heap[bs]? = W.heap[bs]?) (h2 : W'.heap[bi]? = W.heap[bi]?) (h3 : W'.heap[bd]? = W.heap[bd]?) (h4 : W'.heap[b]? = W.heap[b]?) (h5 : W'.heap[q]? = W.heap[q]?) : SC bs bi bd b o q n c off m D LA LB W' := by
  obtain ⟨k1, k2, k3, k4, k5⟩ := h
  exact ⟨fun i v hv => (World.cell?_of_block h1).trans (k1 i v hv), fun i v hv => (World.cell?_of_block h2).trans (k2 i v hv), fun i v hv => (World.cell?_of_block h3).trans (k3 i v hv), fun i v hv => (World.cell?_of_block h4).trans (k4 i v hv), fun i v hv => (World.cell?_of_block h5).trans (k5 i v hv)⟩
theorem one4 {bm fi se : Bool} {hh : Int} : ∀ z ∈ ([.bool bm, .bool fi, .bool se, .int .i64 hh] : List Value), z.oneCell' = true := by
  intro z hz
  simp only [List.mem_cons, List.not_mem_nil, or_false] at hz
  rcases hz with rfl | rfl | rfl | rfl <;> rfl

theorem al_block {W : World} (o : Obj) (g : Nat) (h : g < W.heap.size) : (W.alloc o).heap[g]? = W.heap[g]? := ((Below.refl W.heap.size W).alloc (Nat.le_refl _) o).block g h

set_option maxRecDepth 100000 in
set_option maxHeartbeats 8000000 in
theorem clo1_is {X bs bi bd b o n c off m : Nat} {D : Int} {nm : ByteArray} {x y ha j b' : Int} {ch : List (Int × Int)} {Ai : Option Addr} {ni ci : Nat} {nm2 : ByteArray} {x2 y2 hb j2 b2 : Int} {ch2 : List (Int × Int)} {Aj : Option Addr} {nj cj : Nat} {bm fi se : Bool} {hh : Int} {L : List (Bool × Bool × Bool × Int)} (ka : crB (⟨nm, x, y, ha, j, b', ch⟩ : Crn) = true) (kb : crB (⟨nm2, x2, y2, hb, j2, b2, ch2⟩ : Crn) = true) (hD0 : 0 ≤ D) (hD1 : D ≤ 1000) (hc : clN (⟨nm, x, y, ha, j, b', ch⟩ : Crn) (⟨nm2, x2, y2, hb, j2, b2, ch2⟩ : Crn) D = (bm, fi, se, hh)) (hL : L.length ≤ 100) (ho : o = off + m * 7) (hmn : m < n) (h1 : bs < X) (h2 : bi < X) (h3 : bd < X) (h4 : b < X) {w : World} (hA : AlM X L w) (cs : Box w bs [.slice (some ⟨b, off, none⟩) n c]) (ci' : Box w bi [.int .i64 (m : Int)]) (cd : Box w bd [.int .i64 D]) (cc : ∀ i v, ([.string nm, .int .i64 x, .int .i64 y, .int .i64 ha, .int .i64 j, .int .i64 b', .slice Ai ni ci] : List Value)[i]? = some v → w.cell? ⟨b, o + i, none⟩ = some v) (ht : Tq w) :
    Calls Tryz.prog 18 #[.agg #[.string nm2, .int .i64 x2, .int .i64 y2, .int .i64 hb, .int .i64 j2, .int .i64 b2, .slice Aj nj cj], .pointer (some ⟨X, 0, none⟩), .pointer (some ⟨bs, 0, none⟩), .pointer (some ⟨bi, 0, none⟩), .pointer (some ⟨bd, 0, none⟩)] w fun e w' => e = .returned (.bool true) ∧ AlM X (L ++ [(bm, fi, se, hh)]) w' ∧ Below X w w' := by
  obtain ⟨i0, hi0, hz0, hz1, hz2⟩ := info_parts infoClo
  have I := hide (And.intro hi0 (And.intro hz0 (And.intro hz1 hz2)))
  clear hi0 hz0 hz1 hz2
  obtain ⟨Av, cv, n', hn', bX, fX, hrow, hX⟩ := hA
  subst hn'
  obtain ⟨W0, hW0⟩ : ∃ W0 : World, w.alloc (.cells #[.string nm2, .int .i64 x2, .int .i64 y2, .int .i64 hb, .int .i64 j2, .int .i64 b2, .slice Aj nj cj] 45) = W0 := ⟨_, rfl⟩
  have hb0 : Below w.heap.size w W0 := by rw [← hW0]; exact (Below.refl _ _).alloc (Nat.le_refl _) _
  have hz0 : W0.heap.size = w.heap.size + 1 := by rw [← hW0]; simp
  obtain ⟨q, hq⟩ : ∃ q, w.heap.size = q := ⟨_, rfl⟩
  have HQ := hide hq
  have hSC : SC bs bi bd b o q n c off m D [.string nm, .int .i64 x, .int .i64 y, .int .i64 ha, .int .i64 j, .int .i64 b', .slice Ai ni ci] [.string nm2, .int .i64 x2, .int .i64 y2, .int .i64 hb, .int .i64 j2, .int .i64 b2, .slice Aj nj cj] W0 := ⟨cs.below hb0 (by omega), ci'.below hb0 (by omega), cd.below hb0 (by omega), fun i v hv => (hb0.cell (p := ⟨b, o + i, none⟩) (by show b < _; omega)).trans (cc i v hv), by rw [← hW0, ← hq]; exact box_at _ _ _ _ rfl⟩
  have HCALL := hide (closenessOf_is (ch := ch) (ch2 := ch2) (Ai := Ai) (ni := ni) (ci := ci) (Aj := Aj) (nj := nj) (cj := cj) ka kb hD0 hD1 hc (w := World.drew W0) (ht.of hb0).drew)
  have hb0d : Below w.heap.size w (World.drew W0) := hb0.drew
  have HBX := hide (bX.below hb0d (by omega))
  have HFX := hide (fX.below hb0d (by omega))
  have HROW := hide (rowB hrow hb0d (Nat.le_refl _))
  clear hb0d
  have HLT := hide (fun g hg => (hrow.lt g hg).2)
  have cX := HBX.out 0 _ rfl
  have HBD := hide (show Below X w (World.drew W0) from Below.mono hb0.drew (by omega))
  have HW0 := hide hW0
  have hm0 : (0 : Int) ≤ (m : Int) := by omega
  have hm1 : (m : Int) < (n : Int) := by omega
  have hzd : (World.drew W0).heap.size = q + 1 := by show W0.heap.size = _; omega
  rw [hq] at hX
  rw [hq] at HLT
  have hXq : X < q := hX
  clear hb0 hz0 hW0 bX fX hrow cs ci' cd ka kb ht hc hq
  go_enter Tryz.func18, Tryz.ntmps18
  go_wp2_with fail
  rw [HW0.out]
  try rw [HQ.out]
  refine wp_region_held_drew (S := fun W => SC bs bi bd b o q n c off m D [.string nm, .int .i64 x, .int .i64 y, .int .i64 ha, .int .i64 j, .int .i64 b', .slice Ai ni ci] [.string nm2, .int .i64 x2, .int .i64 y2, .int .i64 hb, .int .i64 j2, .int .i64 b2, .slice Aj nj cj] W) (by kernel_rfl) (hSC) (fun hHeld => ?_)
  try simp only [Array.replicate, List.replicate]
  refine wpAnyH_take (i := 1) (v := ?_) rfl (by kernel_rfl) (by kernel_rfl) (by kernel_rfl) (fun _ _ _ h => h) (Or.inl ⟨by rfl, ?_⟩) (by assumption) ?_
  rotate_left
  · (intro w hSw; (try dsimp only at hSw); go_simp; try (with_reducible rfl))
  try simp only [Act.put, List.getElem_toArray, List.getElem_cons_succ, List.getElem_cons_zero, List.setIfInBounds_toArray, List.set_cons_succ, List.set_cons_zero]
  refine wpAnyH_take (i := 2) (v := ?_) rfl (by kernel_rfl) (by kernel_rfl) (by kernel_rfl) (fun _ _ _ h => h) (Or.inl ⟨by rfl, ?_⟩) (by assumption) ?_
  rotate_left
  · (intro W9 hSw; have k := hSw.1; have k_0 := k 0 _ rfl; clear hSw k; go_simp; try (with_reducible rfl))
  try simp only [Act.put, List.getElem_toArray, List.getElem_cons_succ, List.getElem_cons_zero, List.setIfInBounds_toArray, List.set_cons_succ, List.set_cons_zero]
  refine wpAnyH_take (i := 3) (v := ?_) rfl (by kernel_rfl) (by kernel_rfl) (by kernel_rfl) (fun _ _ _ h => h) (Or.inl ⟨by rfl, ?_⟩) (by assumption) ?_
  rotate_left
  · (intro W9 hSw; have k := hSw.2.1; have k_0 := k 0 _ rfl; clear hSw k; go_simp; try (with_reducible rfl))
  try simp only [Act.put, List.getElem_toArray, List.getElem_cons_succ, List.getElem_cons_zero, List.setIfInBounds_toArray, List.set_cons_succ, List.set_cons_zero]
  refine wpAnyH_take (i := 4) (v := ?_) rfl (by kernel_rfl) (by kernel_rfl) (by kernel_rfl) (fun _ _ _ h => h) (Or.inl ⟨by rfl, ?_⟩) (by assumption) ?_
  rotate_left
  · (intro w hSw; (try dsimp only at hSw); go_simp; try (with_reducible rfl))
  try simp only [Act.put, List.getElem_toArray, List.getElem_cons_succ, List.getElem_cons_zero, List.setIfInBounds_toArray, List.set_cons_succ, List.set_cons_zero]
  refine wpAnyH_take (i := 5) (v := ?_) rfl (by kernel_rfl) (by kernel_rfl) (by kernel_rfl) (fun _ _ _ h => h) (Or.inl ⟨by rfl, ?_⟩) (by assumption) ?_
  rotate_left
  · (intro W9 hSw; have k := hSw.2.2.2.1; have k_0 := k 0 _ rfl; have k_1 := k 1 _ rfl; have k_2 := k 2 _ rfl; have k_3 := k 3 _ rfl; have k_4 := k 4 _ rfl; have k_5 := k 5 _ rfl; have k_6 := k 6 _ rfl; simp only [Nat.add_zero] at k_0; subst ho; clear hSw k; go_simp; try (with_reducible rfl))
  try simp only [Act.put, List.getElem_toArray, List.getElem_cons_succ, List.getElem_cons_zero, List.setIfInBounds_toArray, List.set_cons_succ, List.set_cons_zero]
  refine wpAnyH_take (i := 6) (v := ?_) rfl (by kernel_rfl) (by kernel_rfl) (by kernel_rfl) (fun _ _ _ h => h) (Or.inl ⟨by rfl, ?_⟩) (by assumption) ?_
  rotate_left
  · (intro W9 hSw; have k := hSw.2.2.2.2; have k_0 := k 0 _ rfl; have k_1 := k 1 _ rfl; have k_2 := k 2 _ rfl; have k_3 := k 3 _ rfl; have k_4 := k 4 _ rfl; have k_5 := k 5 _ rfl; have k_6 := k 6 _ rfl; clear hSw k; go_simp; try (with_reducible rfl))
  try simp only [Act.put, List.getElem_toArray, List.getElem_cons_succ, List.getElem_cons_zero, List.setIfInBounds_toArray, List.set_cons_succ, List.set_cons_zero]
  refine wpAnyH_take (i := 7) (v := ?_) rfl (by kernel_rfl) (by kernel_rfl) (by kernel_rfl) (fun _ _ _ h => h) (Or.inl ⟨by rfl, ?_⟩) (by assumption) ?_
  rotate_left
  · (intro W9 hSw; have k := hSw.2.2.1; have k_0 := k 0 _ rfl; clear hSw k; go_simp; try (with_reducible rfl))
  try simp only [Act.put, List.getElem_toArray, List.getElem_cons_succ, List.getElem_cons_zero, List.setIfInBounds_toArray, List.set_cons_succ, List.set_cons_zero]
  refine wpAnyH_ready (rs := [0, 8]) (by kernel_rfl) (by simp) ?_
  refine (AllReadyH.cons rfl (fun KQ hK => ?_) (AllReadyH.cons rfl (fun KQ hK => ?_) AllReadyH.nil))
  · go_simp
    refine hK.out _ _ (hHeld) (fun hHeld2 => ?_)
    clear hK KQ hHeld
    have hHeld := hHeld2
    clear hHeld2
    try simp only [Act.put, List.getElem_toArray, List.getElem_cons_succ, List.getElem_cons_zero, List.setIfInBounds_toArray, List.set_cons_succ, List.set_cons_zero]
    refine wpAnyH_ready (rs := [8]) (by kernel_rfl) (by simp) ?_
    refine (AllReadyH.cons rfl (fun KQ hK => ?_) AllReadyH.nil)
    go_simp
    refine HCALL.out.mono ?_
    rintro e w3 ⟨rfl, hb3⟩
    have HB3 := hide hb3
    have hz3 := hb3.size
    replace cX := (hb3.cell (p := ⟨X, 0, none⟩) (by show X < _; omega)).trans cX
    have cA : ∀ o' : Obj, (w3.alloc o').cell? ⟨X, 0, none⟩ = some (.slice Av L.length cv) := fun o' => (World.cell?_alloc_lt w3 o' ⟨X, 0, none⟩ (by show X < _; omega)).trans cX
    have hS3 : SC bs bi bd b o q n c off m D [.string nm, .int .i64 x, .int .i64 y, .int .i64 ha, .int .i64 j, .int .i64 b', .slice Ai ni ci] [.string nm2, .int .i64 x2, .int .i64 y2, .int .i64 hb, .int .i64 j2, .int .i64 b2, .slice Aj nj cj] w3 := hHeld.keep (hb3.block _ (by omega)) (hb3.block _ (by omega)) (hb3.block _ (by omega)) (hb3.block _ (by omega)) (hb3.block _ (by omega))
    clear hb3 HCALL
    refine hK.out _ _ (hS3) (fun hHeld2 => ?_)
    clear hK KQ hHeld
    have hHeld := hHeld2
    clear hHeld2
    try simp only [Act.put, List.getElem_toArray, List.getElem_cons_succ, List.getElem_cons_zero, List.setIfInBounds_toArray, List.set_cons_succ, List.set_cons_zero]
    refine wpAnyH_ready (rs := [9]) (by kernel_rfl) (by simp) ?_
    refine (AllReadyH.cons rfl (fun KQ hK => ?_) AllReadyH.nil)
    go_simp
    have hS4 : SC bs bi bd b o q n c off m D [.string nm, .int .i64 x, .int .i64 y, .int .i64 ha, .int .i64 j, .int .i64 b', .slice Ai ni ci] [.string nm2, .int .i64 x2, .int .i64 y2, .int .i64 hb, .int .i64 j2, .int .i64 b2, .slice Aj nj cj] (w3.alloc (.cells #[.bool bm, .bool fi, .bool se, .int .i64 hh] 52)) := hHeld.keep (al_block _ _ (by omega)) (al_block _ _ (by omega)) (al_block _ _ (by omega)) (al_block _ _ (by omega)) (al_block _ _ (by omega))
    refine hK.out _ _ (hS4) (fun hHeld2 => ?_)
    clear hK KQ hHeld
    have hHeld := hHeld2
    clear hHeld2
    try simp only [Act.put, List.getElem_toArray, List.getElem_cons_succ, List.getElem_cons_zero, List.setIfInBounds_toArray, List.set_cons_succ, List.set_cons_zero]
    refine wpAnyH_ready (rs := [10]) (by kernel_rfl) (by simp) ?_
    refine (AllReadyH.cons rfl (fun KQ hK => ?_) AllReadyH.nil)
    have H1 := hide (show (w3.alloc (.cells #[.bool bm, .bool fi, .bool se, .int .i64 hh] 52)).ownsRow (X + 1) 52 4 (.slice Av L.length cv) L.length (rClo L) from rowB (rowB HROW.out HB3.out (Nat.le_refl _)) ((Below.refl _ _).alloc (Nat.le_refl w3.heap.size) _) (Nat.le_refl _))
    have hblk := row_block HROW.out
    have hlt0 := fun g hg => HLT.out g hg
    refine step_append_lies _ (by rfl) (.tmp 7) (.tmp 16) 49 (by rfl) (X + 1) 52 i0 (.agg #[.bool false, .bool false, .bool false, .int .i64 0]) 4 16 Tryz.underlying49 I.out.1 I.out.2.1 I.out.2.2.1 I.out.2.2.2 rfl (by decide) (.slice Av L.length cv) L.length (rClo L) (by rfl) H1.out ⟨w3.heap.size, 0, none⟩ 1 1 [.bool bm, .bool fi, .bool se, .int .i64 hh] (by rfl) rfl (news_new _ _ _ _ rfl) one4 (by decide) (by unfold maxLen; omega) (by omega) (by simp; omega) _ rfl ?_
    intro gg cap wn hown' hgrow hat hlt'
    have HO := hide hown'
    have HG := hide hgrow
    have hnx : ∀ g, g < X + 1 → some g ≠ (Value.slice Av L.length cv).ownBlock := fun g hg e => by have := hblk _ e.symm; omega
    have hnq : some q ≠ (Value.slice Av L.length cv).ownBlock := fun e => by have := hlt0 _ e.symm; omega
    have bX := far_box hgrow ((HBX.out.below HB3.out (by omega)).alloc (by omega) _) (by simp; omega) (hnx _ (by omega))
    have fX := far_fz hgrow ((HFX.out.below HB3.out (by omega)).alloc (by omega) _) (by simp; omega) (hnx _ (by omega))
    have c1 := bX 0 _ rfl
    have f1 := fX 0
    have HBX2 := hide bX
    have HFX2 := hide fX
    have hzn := hgrow.size
    have hzn2 : w3.heap.size ≤ wn.heap.size := by simp at hzn; omega
    have hS5 : SC bs bi bd b o q n c off m D [.string nm, .int .i64 x, .int .i64 y, .int .i64 ha, .int .i64 j, .int .i64 b', .slice Ai ni ci] [.string nm2, .int .i64 x2, .int .i64 y2, .int .i64 hb, .int .i64 j2, .int .i64 b2, .slice Aj nj cj] wn := hHeld.keep (hgrow.block _ (by simp; omega) (hnx _ (by omega))) (hgrow.block _ (by simp; omega) (hnx _ (by omega))) (hgrow.block _ (by simp; omega) (hnx _ (by omega))) (hgrow.block _ (by simp; omega) (hnx _ (by omega))) (hgrow.block _ (by simp; omega) hnq)
    clear hown' hgrow hat cA cX bX fX hzn
    refine hK.out _ _ (hS5) (fun hHeld2 => ?_)
    clear hK KQ hHeld
    have hHeld := hHeld2
    clear hHeld2
    try simp only [Act.put, List.getElem_toArray, List.getElem_cons_succ, List.getElem_cons_zero, List.setIfInBounds_toArray, List.set_cons_succ, List.set_cons_zero]
    refine wpAnyH_ready (rs := [11]) (by kernel_rfl) (by simp) ?_
    refine (AllReadyH.cons rfl (fun KQ hK => ?_) AllReadyH.nil)
    go_simp
    have hS6 : SC bs bi bd b o q n c off m D [.string nm, .int .i64 x, .int .i64 y, .int .i64 ha, .int .i64 j, .int .i64 b', .slice Ai ni ci] [.string nm2, .int .i64 x2, .int .i64 y2, .int .i64 hb, .int .i64 j2, .int .i64 b2, .slice Aj nj cj] (wn.setCell ⟨X, 0, none⟩ (.slice (some ⟨gg, 0, none⟩) (L.length + 1) cap)) := hHeld.keep (Below.heap_setCell _ _ _ _ (by show bs ≠ X; omega)) (Below.heap_setCell _ _ _ _ (by show bi ≠ X; omega)) (Below.heap_setCell _ _ _ _ (by show bd ≠ X; omega)) (Below.heap_setCell _ _ _ _ (by show b ≠ X; omega)) (Below.heap_setCell _ _ _ _ (by show q ≠ X; omega))
    have hN : AlM X (L ++ [(bm, fi, se, hh)]) (wn.setCell ⟨X, 0, none⟩ (.slice (some ⟨gg, 0, none⟩) (L.length + 1) cap)) := ⟨_, _, L.length + 1, by simp, HBX2.out.put 0 _ (by simp), HFX2.out.set _ _, by rw [rClo_snoc]; exact rowPut HO.out (by show X < X + 1; omega), by simp [World.setCell]; omega⟩
    have hB : Below X w (wn.setCell ⟨X, 0, none⟩ (.slice (some ⟨gg, 0, none⟩) (L.length + 1) cap)) := ((((HBD.out.trans (HB3.out.mono (by omega))).alloc (by omega) _).grown HG.out (by simp; omega) (fun g hg => by have := hblk g hg; omega)).setCell (by show X ≤ X; omega) _)
    have HN := hide hN
    have HB9 := hide hB
    clear hN hB c1 f1
    refine hK.out _ _ (hS6) (fun hHeld2 => ?_)
    clear hK KQ hHeld
    have hHeld := hHeld2
    clear hHeld2
    try simp only [Act.put, List.getElem_toArray, List.getElem_cons_succ, List.getElem_cons_zero, List.setIfInBounds_toArray, List.set_cons_succ, List.set_cons_zero]
    generalize (wn.setCell ⟨X, 0, none⟩ (.slice (some ⟨gg, 0, none⟩) (L.length + 1) cap)) = w6 at *
    refine wpAnyH_done (by kernel_rfl) ?_ _
    go_wp2_with fail
    go_ret
    exact ⟨rfl, HN.out, HB9.out⟩
  · go_simp
    refine HCALL.out.mono ?_
    rintro e w3 ⟨rfl, hb3⟩
    have HB3 := hide hb3
    have hz3 := hb3.size
    replace cX := (hb3.cell (p := ⟨X, 0, none⟩) (by show X < _; omega)).trans cX
    have cA : ∀ o' : Obj, (w3.alloc o').cell? ⟨X, 0, none⟩ = some (.slice Av L.length cv) := fun o' => (World.cell?_alloc_lt w3 o' ⟨X, 0, none⟩ (by show X < _; omega)).trans cX
    have hS3 : SC bs bi bd b o q n c off m D [.string nm, .int .i64 x, .int .i64 y, .int .i64 ha, .int .i64 j, .int .i64 b', .slice Ai ni ci] [.string nm2, .int .i64 x2, .int .i64 y2, .int .i64 hb, .int .i64 j2, .int .i64 b2, .slice Aj nj cj] w3 := hHeld.keep (hb3.block _ (by omega)) (hb3.block _ (by omega)) (hb3.block _ (by omega)) (hb3.block _ (by omega)) (hb3.block _ (by omega))
    clear hb3 HCALL
    refine hK.out _ _ (hS3) (fun hHeld2 => ?_)
    clear hK KQ hHeld
    have hHeld := hHeld2
    clear hHeld2
    try simp only [Act.put, List.getElem_toArray, List.getElem_cons_succ, List.getElem_cons_zero, List.setIfInBounds_toArray, List.set_cons_succ, List.set_cons_zero]
    refine wpAnyH_ready (rs := [0, 9]) (by kernel_rfl) (by simp) ?_
    refine (AllReadyH.cons rfl (fun KQ hK => ?_) (AllReadyH.cons rfl (fun KQ hK => ?_) AllReadyH.nil))
    · go_simp
      refine hK.out _ _ (hHeld) (fun hHeld2 => ?_)
      clear hK KQ hHeld
      have hHeld := hHeld2
      clear hHeld2
      try simp only [Act.put, List.getElem_toArray, List.getElem_cons_succ, List.getElem_cons_zero, List.setIfInBounds_toArray, List.set_cons_succ, List.set_cons_zero]
      refine wpAnyH_ready (rs := [9]) (by kernel_rfl) (by simp) ?_
      refine (AllReadyH.cons rfl (fun KQ hK => ?_) AllReadyH.nil)
      go_simp
      have hS4 : SC bs bi bd b o q n c off m D [.string nm, .int .i64 x, .int .i64 y, .int .i64 ha, .int .i64 j, .int .i64 b', .slice Ai ni ci] [.string nm2, .int .i64 x2, .int .i64 y2, .int .i64 hb, .int .i64 j2, .int .i64 b2, .slice Aj nj cj] (w3.alloc (.cells #[.bool bm, .bool fi, .bool se, .int .i64 hh] 52)) := hHeld.keep (al_block _ _ (by omega)) (al_block _ _ (by omega)) (al_block _ _ (by omega)) (al_block _ _ (by omega)) (al_block _ _ (by omega))
      refine hK.out _ _ (hS4) (fun hHeld2 => ?_)
      clear hK KQ hHeld
      have hHeld := hHeld2
      clear hHeld2
      try simp only [Act.put, List.getElem_toArray, List.getElem_cons_succ, List.getElem_cons_zero, List.setIfInBounds_toArray, List.set_cons_succ, List.set_cons_zero]
      refine wpAnyH_ready (rs := [10]) (by kernel_rfl) (by simp) ?_
      refine (AllReadyH.cons rfl (fun KQ hK => ?_) AllReadyH.nil)
      have H1 := hide (show (w3.alloc (.cells #[.bool bm, .bool fi, .bool se, .int .i64 hh] 52)).ownsRow (X + 1) 52 4 (.slice Av L.length cv) L.length (rClo L) from rowB (rowB HROW.out HB3.out (Nat.le_refl _)) ((Below.refl _ _).alloc (Nat.le_refl w3.heap.size) _) (Nat.le_refl _))
      have hblk := row_block HROW.out
      have hlt0 := fun g hg => HLT.out g hg
      refine step_append_lies _ (by rfl) (.tmp 7) (.tmp 16) 49 (by rfl) (X + 1) 52 i0 (.agg #[.bool false, .bool false, .bool false, .int .i64 0]) 4 16 Tryz.underlying49 I.out.1 I.out.2.1 I.out.2.2.1 I.out.2.2.2 rfl (by decide) (.slice Av L.length cv) L.length (rClo L) (by rfl) H1.out ⟨w3.heap.size, 0, none⟩ 1 1 [.bool bm, .bool fi, .bool se, .int .i64 hh] (by rfl) rfl (news_new _ _ _ _ rfl) one4 (by decide) (by unfold maxLen; omega) (by omega) (by simp; omega) _ rfl ?_
      intro gg cap wn hown' hgrow hat hlt'
      have HO := hide hown'
      have HG := hide hgrow
      have hnx : ∀ g, g < X + 1 → some g ≠ (Value.slice Av L.length cv).ownBlock := fun g hg e => by have := hblk _ e.symm; omega
      have hnq : some q ≠ (Value.slice Av L.length cv).ownBlock := fun e => by have := hlt0 _ e.symm; omega
      have bX := far_box hgrow ((HBX.out.below HB3.out (by omega)).alloc (by omega) _) (by simp; omega) (hnx _ (by omega))
      have fX := far_fz hgrow ((HFX.out.below HB3.out (by omega)).alloc (by omega) _) (by simp; omega) (hnx _ (by omega))
      have c1 := bX 0 _ rfl
      have f1 := fX 0
      have HBX2 := hide bX
      have HFX2 := hide fX
      have hzn := hgrow.size
      have hzn2 : w3.heap.size ≤ wn.heap.size := by simp at hzn; omega
      have hS5 : SC bs bi bd b o q n c off m D [.string nm, .int .i64 x, .int .i64 y, .int .i64 ha, .int .i64 j, .int .i64 b', .slice Ai ni ci] [.string nm2, .int .i64 x2, .int .i64 y2, .int .i64 hb, .int .i64 j2, .int .i64 b2, .slice Aj nj cj] wn := hHeld.keep (hgrow.block _ (by simp; omega) (hnx _ (by omega))) (hgrow.block _ (by simp; omega) (hnx _ (by omega))) (hgrow.block _ (by simp; omega) (hnx _ (by omega))) (hgrow.block _ (by simp; omega) (hnx _ (by omega))) (hgrow.block _ (by simp; omega) hnq)
      clear hown' hgrow hat cA cX bX fX hzn
      refine hK.out _ _ (hS5) (fun hHeld2 => ?_)
      clear hK KQ hHeld
      have hHeld := hHeld2
      clear hHeld2
      try simp only [Act.put, List.getElem_toArray, List.getElem_cons_succ, List.getElem_cons_zero, List.setIfInBounds_toArray, List.set_cons_succ, List.set_cons_zero]
      refine wpAnyH_ready (rs := [11]) (by kernel_rfl) (by simp) ?_
      refine (AllReadyH.cons rfl (fun KQ hK => ?_) AllReadyH.nil)
      go_simp
      have hS6 : SC bs bi bd b o q n c off m D [.string nm, .int .i64 x, .int .i64 y, .int .i64 ha, .int .i64 j, .int .i64 b', .slice Ai ni ci] [.string nm2, .int .i64 x2, .int .i64 y2, .int .i64 hb, .int .i64 j2, .int .i64 b2, .slice Aj nj cj] (wn.setCell ⟨X, 0, none⟩ (.slice (some ⟨gg, 0, none⟩) (L.length + 1) cap)) := hHeld.keep (Below.heap_setCell _ _ _ _ (by show bs ≠ X; omega)) (Below.heap_setCell _ _ _ _ (by show bi ≠ X; omega)) (Below.heap_setCell _ _ _ _ (by show bd ≠ X; omega)) (Below.heap_setCell _ _ _ _ (by show b ≠ X; omega)) (Below.heap_setCell _ _ _ _ (by show q ≠ X; omega))
      have hN : AlM X (L ++ [(bm, fi, se, hh)]) (wn.setCell ⟨X, 0, none⟩ (.slice (some ⟨gg, 0, none⟩) (L.length + 1) cap)) := ⟨_, _, L.length + 1, by simp, HBX2.out.put 0 _ (by simp), HFX2.out.set _ _, by rw [rClo_snoc]; exact rowPut HO.out (by show X < X + 1; omega), by simp [World.setCell]; omega⟩
      have hB : Below X w (wn.setCell ⟨X, 0, none⟩ (.slice (some ⟨gg, 0, none⟩) (L.length + 1) cap)) := ((((HBD.out.trans (HB3.out.mono (by omega))).alloc (by omega) _).grown HG.out (by simp; omega) (fun g hg => by have := hblk g hg; omega)).setCell (by show X ≤ X; omega) _)
      have HN := hide hN
      have HB9 := hide hB
      clear hN hB c1 f1
      refine hK.out _ _ (hS6) (fun hHeld2 => ?_)
      clear hK KQ hHeld
      have hHeld := hHeld2
      clear hHeld2
      try simp only [Act.put, List.getElem_toArray, List.getElem_cons_succ, List.getElem_cons_zero, List.setIfInBounds_toArray, List.set_cons_succ, List.set_cons_zero]
      generalize (wn.setCell ⟨X, 0, none⟩ (.slice (some ⟨gg, 0, none⟩) (L.length + 1) cap)) = w6 at *
      refine wpAnyH_done (by kernel_rfl) ?_ _
      go_wp2_with fail
      go_ret
      exact ⟨rfl, HN.out, HB9.out⟩
    · go_simp
      have hS4 : SC bs bi bd b o q n c off m D [.string nm, .int .i64 x, .int .i64 y, .int .i64 ha, .int .i64 j, .int .i64 b', .slice Ai ni ci] [.string nm2, .int .i64 x2, .int .i64 y2, .int .i64 hb, .int .i64 j2, .int .i64 b2, .slice Aj nj cj] (w3.alloc (.cells #[.bool bm, .bool fi, .bool se, .int .i64 hh] 52)) := hHeld.keep (al_block _ _ (by omega)) (al_block _ _ (by omega)) (al_block _ _ (by omega)) (al_block _ _ (by omega)) (al_block _ _ (by omega))
      refine hK.out _ _ (hS4) (fun hHeld2 => ?_)
      clear hK KQ hHeld
      have hHeld := hHeld2
      clear hHeld2
      try simp only [Act.put, List.getElem_toArray, List.getElem_cons_succ, List.getElem_cons_zero, List.setIfInBounds_toArray, List.set_cons_succ, List.set_cons_zero]
      refine wpAnyH_ready (rs := [0]) (by kernel_rfl) (by simp) ?_
      refine (AllReadyH.cons rfl (fun KQ hK => ?_) AllReadyH.nil)
      go_simp
      refine hK.out _ _ (hHeld) (fun hHeld2 => ?_)
      clear hK KQ hHeld
      have hHeld := hHeld2
      clear hHeld2
      try simp only [Act.put, List.getElem_toArray, List.getElem_cons_succ, List.getElem_cons_zero, List.setIfInBounds_toArray, List.set_cons_succ, List.set_cons_zero]
      refine wpAnyH_ready (rs := [10]) (by kernel_rfl) (by simp) ?_
      refine (AllReadyH.cons rfl (fun KQ hK => ?_) AllReadyH.nil)
      have H1 := hide (show (w3.alloc (.cells #[.bool bm, .bool fi, .bool se, .int .i64 hh] 52)).ownsRow (X + 1) 52 4 (.slice Av L.length cv) L.length (rClo L) from rowB (rowB HROW.out HB3.out (Nat.le_refl _)) ((Below.refl _ _).alloc (Nat.le_refl w3.heap.size) _) (Nat.le_refl _))
      have hblk := row_block HROW.out
      have hlt0 := fun g hg => HLT.out g hg
      refine step_append_lies _ (by rfl) (.tmp 7) (.tmp 16) 49 (by rfl) (X + 1) 52 i0 (.agg #[.bool false, .bool false, .bool false, .int .i64 0]) 4 16 Tryz.underlying49 I.out.1 I.out.2.1 I.out.2.2.1 I.out.2.2.2 rfl (by decide) (.slice Av L.length cv) L.length (rClo L) (by rfl) H1.out ⟨w3.heap.size, 0, none⟩ 1 1 [.bool bm, .bool fi, .bool se, .int .i64 hh] (by rfl) rfl (news_new _ _ _ _ rfl) one4 (by decide) (by unfold maxLen; omega) (by omega) (by simp; omega) _ rfl ?_
      intro gg cap wn hown' hgrow hat hlt'
      have HO := hide hown'
      have HG := hide hgrow
      have hnx : ∀ g, g < X + 1 → some g ≠ (Value.slice Av L.length cv).ownBlock := fun g hg e => by have := hblk _ e.symm; omega
      have hnq : some q ≠ (Value.slice Av L.length cv).ownBlock := fun e => by have := hlt0 _ e.symm; omega
      have bX := far_box hgrow ((HBX.out.below HB3.out (by omega)).alloc (by omega) _) (by simp; omega) (hnx _ (by omega))
      have fX := far_fz hgrow ((HFX.out.below HB3.out (by omega)).alloc (by omega) _) (by simp; omega) (hnx _ (by omega))
      have c1 := bX 0 _ rfl
      have f1 := fX 0
      have HBX2 := hide bX
      have HFX2 := hide fX
      have hzn := hgrow.size
      have hzn2 : w3.heap.size ≤ wn.heap.size := by simp at hzn; omega
      have hS5 : SC bs bi bd b o q n c off m D [.string nm, .int .i64 x, .int .i64 y, .int .i64 ha, .int .i64 j, .int .i64 b', .slice Ai ni ci] [.string nm2, .int .i64 x2, .int .i64 y2, .int .i64 hb, .int .i64 j2, .int .i64 b2, .slice Aj nj cj] wn := hHeld.keep (hgrow.block _ (by simp; omega) (hnx _ (by omega))) (hgrow.block _ (by simp; omega) (hnx _ (by omega))) (hgrow.block _ (by simp; omega) (hnx _ (by omega))) (hgrow.block _ (by simp; omega) (hnx _ (by omega))) (hgrow.block _ (by simp; omega) hnq)
      clear hown' hgrow hat cA cX bX fX hzn
      refine hK.out _ _ (hS5) (fun hHeld2 => ?_)
      clear hK KQ hHeld
      have hHeld := hHeld2
      clear hHeld2
      try simp only [Act.put, List.getElem_toArray, List.getElem_cons_succ, List.getElem_cons_zero, List.setIfInBounds_toArray, List.set_cons_succ, List.set_cons_zero]
      refine wpAnyH_ready (rs := [11]) (by kernel_rfl) (by simp) ?_
      refine (AllReadyH.cons rfl (fun KQ hK => ?_) AllReadyH.nil)
      go_simp
      have hS6 : SC bs bi bd b o q n c off m D [.string nm, .int .i64 x, .int .i64 y, .int .i64 ha, .int .i64 j, .int .i64 b', .slice Ai ni ci] [.string nm2, .int .i64 x2, .int .i64 y2, .int .i64 hb, .int .i64 j2, .int .i64 b2, .slice Aj nj cj] (wn.setCell ⟨X, 0, none⟩ (.slice (some ⟨gg, 0, none⟩) (L.length + 1) cap)) := hHeld.keep (Below.heap_setCell _ _ _ _ (by show bs ≠ X; omega)) (Below.heap_setCell _ _ _ _ (by show bi ≠ X; omega)) (Below.heap_setCell _ _ _ _ (by show bd ≠ X; omega)) (Below.heap_setCell _ _ _ _ (by show b ≠ X; omega)) (Below.heap_setCell _ _ _ _ (by show q ≠ X; omega))
      have hN : AlM X (L ++ [(bm, fi, se, hh)]) (wn.setCell ⟨X, 0, none⟩ (.slice (some ⟨gg, 0, none⟩) (L.length + 1) cap)) := ⟨_, _, L.length + 1, by simp, HBX2.out.put 0 _ (by simp), HFX2.out.set _ _, by rw [rClo_snoc]; exact rowPut HO.out (by show X < X + 1; omega), by simp [World.setCell]; omega⟩
      have hB : Below X w (wn.setCell ⟨X, 0, none⟩ (.slice (some ⟨gg, 0, none⟩) (L.length + 1) cap)) := ((((HBD.out.trans (HB3.out.mono (by omega))).alloc (by omega) _).grown HG.out (by simp; omega) (fun g hg => by have := hblk g hg; omega)).setCell (by show X ≤ X; omega) _)
      have HN := hide hN
      have HB9 := hide hB
      clear hN hB c1 f1
      refine hK.out _ _ (hS6) (fun hHeld2 => ?_)
      clear hK KQ hHeld
      have hHeld := hHeld2
      clear hHeld2
      try simp only [Act.put, List.getElem_toArray, List.getElem_cons_succ, List.getElem_cons_zero, List.setIfInBounds_toArray, List.set_cons_succ, List.set_cons_zero]
      generalize (wn.setCell ⟨X, 0, none⟩ (.slice (some ⟨gg, 0, none⟩) (L.length + 1) cap)) = w6 at *
      refine wpAnyH_done (by kernel_rfl) ?_ _
      go_wp2_with fail
      go_ret
      exact ⟨rfl, HN.out, HB9.out⟩


end Go.Proofs.YtajjophmngabbaaGreatDoor
