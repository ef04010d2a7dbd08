/-
  The reference's copy of a site: the numbers of its cranes. No condition but those that each theorem names.
-/
import Derived.Test.YtajjophmngabbaaGreatDoorGe6
import Derived.Deep.AppendLies
namespace Go.Proofs.YtajjophmngabbaaGreatDoor
open Go.RowKit
set_option linter.unusedVariables false
set_option linter.unusedSimpArgs false

theorem rC_one (l : List (Int × Int)) : ∀ u ∈ rChartStep l, u.oneCell' = true := by
  intro u hu
  unfold rChartStep rows at hu
  rw [List.mem_flatMap] at hu
  obtain ⟨p, _, hp⟩ := hu
  simp only [cChartStep, List.mem_cons, List.not_mem_nil, or_false] at hp
  rcases hp with rfl | rfl <;> rfl

theorem far_box {w w' : World} {row : Option Nat} {b : Nat} {vs : List Value} (hg : w.grownBy w' row) (h : Box w b vs) (hl : b < w.heap.size) (hne : some b ≠ row) : Box w' b vs := fun i v hv => (hg.cell_far ⟨b, i, none⟩ hl hne).trans (h i v hv)
theorem far_fz {w w' : World} {row : Option Nat} {b : Nat} (hg : w.grownBy w' row) (h : Fz w b) (hl : b < w.heap.size) (hne : some b ≠ row) : Fz w' b := fun i => (hg.frozen_far ⟨b, i, none⟩ hl hne).trans (h i)
theorem add_cell (W : World) (b o j : Nat) : W.cell? ((⟨b, o, none⟩ : Addr).add j) = W.cell? ⟨b, o + j, none⟩ := by
  cases j <;> simp [Addr.add]
set_option maxRecDepth 100000 in
set_option maxHeartbeats 2000000 in
theorem l04Own_any (b o : Nat) (c : Crn) (Ai : Option Addr) (ci lo hi : Nat) (h1 : 1 ≤ c.ch.length) (h2 : c.ch.length ≤ 20) (w : World) (hb : b < w.heap.size) (hc : ∀ i v, (cCr c (.slice Ai c.ch.length ci))[i]? = some v → w.cell? ⟨b, o + i, none⟩ = some v) (hr : Rd w lo hi 2 Ai c.ch.length (rChartStep c.ch)) (hhi : hi ≤ w.heap.size) :
    Calls Tryz.prog 24 #[.pointer (some ⟨b, o, none⟩)] w fun e w' => ∃ u, e = .returned (.agg #[.string c.nm, .int .i64 c.x, .int .i64 c.y, .int .i64 c.h, .int .i64 c.j, .int .i64 c.b, u]) ∧ u.oneCell' = true ∧ Below w.heap.size w w' := by
  obtain ⟨i0, hi0, hz0, hz1, hz2⟩ := info_parts infoChartStep
  have I := hide (And.intro hi0 (And.intro hz0 (And.intro hz1 hz2)))
  clear hi0 hz0 hz1 hz2
  obtain ⟨nm, x, y, h, j, bk, ch⟩ := c
  simp only at h1 h2 hr ⊢
  obtain ⟨ni, hni⟩ : ∃ ni, ch.length = ni := ⟨_, rfl⟩
  replace hc : ∀ i v, ([.string nm, .int .i64 x, .int .i64 y, .int .i64 h, .int .i64 j, .int .i64 bk, .slice Ai ni ci] : List Value)[i]? = some v → w.cell? ⟨b, o + i, none⟩ = some v := by rw [← hni]; exact hc
  rw [hni] at h1 h2 hr
  have HRL := hide (show (rChartStep ch).length = ni * 2 from hr.1)
  obtain ⟨ab, ao, rfl, ha1, ha2, hnews⟩ := hr.2 (by omega)
  have HN := hide hnews
  clear hnews hr hni
  obtain ⟨WA, hWA⟩ : ∃ W : World, W = w.alloc (.cells #[.string ⟨#[]⟩, .int .i64 0, .int .i64 0, .int .i64 0, .int .i64 0, .int .i64 0, .slice none 0 0] 45) := ⟨_, rfl⟩
  have hBA : Below w.heap.size w WA := by rw [hWA]; exact (Below.refl _ _).alloc (Nat.le_refl _) _
  have hsA : WA.heap.size = w.heap.size + 1 := by rw [hWA]; simp
  have q0 := (hBA.cell (p := ⟨b, o + 0, none⟩) hb).trans (hc 0 _ rfl)
  have q1 := (hBA.cell (p := ⟨b, o + 1, none⟩) hb).trans (hc 1 _ rfl)
  have q2 := (hBA.cell (p := ⟨b, o + 2, none⟩) hb).trans (hc 2 _ rfl)
  have q3 := (hBA.cell (p := ⟨b, o + 3, none⟩) hb).trans (hc 3 _ rfl)
  have q4 := (hBA.cell (p := ⟨b, o + 4, none⟩) hb).trans (hc 4 _ rfl)
  have q5 := (hBA.cell (p := ⟨b, o + 5, none⟩) hb).trans (hc 5 _ rfl)
  have q6 := (hBA.cell (p := ⟨b, o + 6, none⟩) hb).trans (hc 6 _ rfl)
  obtain ⟨W0, hW0⟩ : ∃ W : World, W = WA.alloc (.cells #[.string nm, .int .i64 x, .int .i64 y, .int .i64 h, .int .i64 j, .int .i64 bk, .slice (some ⟨ab, ao, none⟩) ni ci] 45) := ⟨_, rfl⟩
  have hB0 : Below w.heap.size w W0 := by rw [hW0]; exact hBA.alloc (by omega) _
  have hs0 : W0.heap.size = w.heap.size + 2 := by rw [hW0]; simp; omega
  have bR : Box W0 w.heap.size [.string ⟨#[]⟩, .int .i64 0, .int .i64 0, .int .i64 0, .int .i64 0, .int .i64 0, .slice none 0 0] := by rw [hW0]; exact (show Box WA w.heap.size [.string ⟨#[]⟩, .int .i64 0, .int .i64 0, .int .i64 0, .int .i64 0, .int .i64 0, .slice none 0 0] by rw [hWA]; exact box_at _ _ _ _ rfl).alloc (by omega) _
  have fR : Fz W0 w.heap.size := by rw [hW0]; exact (show Fz WA w.heap.size by rw [hWA]; exact fz_at _ _ _ _ rfl).alloc (by omega) _
  have bC : Box W0 (w.heap.size + 1) [.string nm, .int .i64 x, .int .i64 y, .int .i64 h, .int .i64 j, .int .i64 bk, .slice (some ⟨ab, ao, none⟩) ni ci] := by rw [hW0]; exact box_at _ _ _ _ hsA.symm
  have fC : Fz W0 (w.heap.size + 1) := by rw [hW0]; exact fz_at _ _ _ _ hsA.symm
  obtain ⟨W2, hW2⟩ : ∃ W : World, W = W0.alloc (.cells #[] 93) := ⟨_, rfl⟩
  have hB2 : Below w.heap.size w W2 := by rw [hW2]; exact hB0.alloc (by omega) _
  have hs2 : W2.heap.size = w.heap.size + 3 := by rw [hW2]; simp; omega
  have HMADE : Hid ((W0.alloc (.cells #[] 93)).ownsRow w.heap.size 93 2 (.slice (some ⟨w.heap.size + 2, 0, none⟩) 0 0) 0 []) := hide (by rw [← hs0]; exact World.ownsRow_made _ _ 0 (by omega) (Nat.zero_le _) rfl)
  have HNEWS : Hid (∀ j u, (rChartStep ch)[j]? = some u → (W0.alloc (.cells #[] 93)).cell? ((⟨ab, ao, none⟩ : Addr).add j) = some u) := hide (fun j u hu => hW2 ▸ (add_cell W2 ab ao j).trans ((hB2.cell (p := ⟨ab, ao + j, none⟩) (by show ab < _; omega)).trans (HN.out j u hu)))
  replace bR : Box W2 w.heap.size [.string ⟨#[]⟩, .int .i64 0, .int .i64 0, .int .i64 0, .int .i64 0, .int .i64 0, .slice none 0 0] := by rw [hW2]; exact bR.alloc (by omega) _
  replace fR : Fz W2 w.heap.size := by rw [hW2]; exact fR.alloc (by omega) _
  replace bC : Box W2 (w.heap.size + 1) [.string nm, .int .i64 x, .int .i64 y, .int .i64 h, .int .i64 j, .int .i64 bk, .slice (some ⟨ab, ao, none⟩) ni ci] := by rw [hW2]; exact bC.alloc (by omega) _
  replace fC : Fz W2 (w.heap.size + 1) := by rw [hW2]; exact fC.alloc (by omega) _
  have HWA := hide hWA
  have HW0 := hide hW0
  have HW2 := hide hW2
  clear hWA hW0 hW2
  have q0' : WA.cell? ⟨b, o, none⟩ = some (.string nm) := q0
  clear q0
  go_enter Tryz.func24, Tryz.ntmps24
  go_upto_region 1 with fail
  rw [← HWA.out]
  go_upto_region 2 with fail
  rw [← HW0.out]
  have r6 := (show Below WA.heap.size WA W0 by rw [HW0.out]; exact (Below.refl _ _).alloc (Nat.le_refl _) _).cell (p := ⟨b, o + 6, none⟩) (by show b < _; omega)
  rw [q6] at r6
  replace r6 : ∀ o' : Obj, (W0.alloc o').cell? ⟨b, o + 6, none⟩ = some (.slice (some ⟨ab, ao, none⟩) ni ci) := fun o' => (World.cell?_alloc_lt W0 o' ⟨b, o + 6, none⟩ (by show b < _; omega)).trans r6
  clear q0' q1 q2 q3 q4 q5 q6
  go_wp2_with (at_builtin; refine wpList_append_own _ rfl (.tmp 7) (.tmp 11) 43 rfl w.heap.size 93 i0 (.agg #[.int .i64 0, .int .i64 0]) 2 16 Tryz.underlying43 I.out.1 I.out.2.1 I.out.2.2.1 I.out.2.2.2 rfl (by decide) (.slice (some ⟨w.heap.size + 2, 0, none⟩) 0 0) 0 [] rfl HMADE.out ⟨ab, ao, none⟩ ni ci (rChartStep ch) rfl HRL.out HNEWS.out (rC_one ch) (by unfold maxLen; omega) (by omega) (by simp; omega) ?_; intro v' w1 hown hgrow _; obtain ⟨gv, cv, rfl, _, _⟩ := hown.form (by omega); rw [← HW2.out] at hgrow; have hsz1 := hgrow.size; have HOW := hide hown; have HG := hide hgrow; replace bC := far_box hgrow bC (by omega) (by simp [Value.ownBlock]); replace bR := far_box hgrow bR (by omega) (by simp [Value.ownBlock]); replace fC := far_fz hgrow fC (by omega) (by simp [Value.ownBlock]); replace fR := far_fz hgrow fR (by omega) (by simp [Value.ownBlock]); clear hown hgrow r6; have c0 := bC 0 _ rfl; have d0 := bR 0 _ rfl; have f0 := fC 0; have g0 := fR 0; have c1 := bC 1 _ rfl; have d1 := bR 1 _ rfl; have f1 := fC 1; have g1 := fR 1; have c2 := bC 2 _ rfl; have d2 := bR 2 _ rfl; have f2 := fC 2; have g2 := fR 2; have c3 := bC 3 _ rfl; have d3 := bR 3 _ rfl; have f3 := fC 3; have g3 := fR 3; have c4 := bC 4 _ rfl; have d4 := bR 4 _ rfl; have f4 := fC 4; have g4 := fR 4; have c5 := bC 5 _ rfl; have d5 := bR 5 _ rfl; have f5 := fC 5; have g5 := fR 5; have c6 := bC 6 _ rfl; have d6 := bR 6 _ rfl; have f6 := fC 6; have g6 := fR 6)
  refine bodyPost_ret (v := .agg #[.string nm, .int .i64 x, .int .i64 y, .int .i64 h, .int .i64 j, .int .i64 bk, .slice (some ⟨gv, 0, none⟩) (0 + ni) cv]) (by simp [results, Tryz.results24, go_sem, d0, d1, d2, d3, d4, d5, d6]) rfl ⟨_, rfl, rfl, ?_⟩
  repeat (with_reducible refine Below.setCell ?_ (by simp; try omega) _)
  exact hB2.grown HG.out (by omega) (fun g hg => by simp [Value.ownBlock] at hg; omega)


end Go.Proofs.YtajjophmngabbaaGreatDoor
