/-
  MergeEvents, the program's. No condition but those that each theorem names.
-/
import Derived.Test.YtdmhoabidlagmaaGrE
import Derived.Deep.DeepCutAuto
namespace Go.Proofs.Ytdmhoabidlagmaa
open Go.RowKit
set_option linter.unusedVariables false
set_option linter.unusedSimpArgs false

theorem alloc_size (w : World) (o : Obj) : w.heap.size + 1 = (w.alloc o).heap.size := by simp
/-- What MergeEvents answers. -/
def mgC (a b : List Evt) : Int := if risV a = true ∧ risV b = true then (if a.length + b.length ≤ 100 then 0 else 5) else 1
def mgL (a b : List Evt) : List Evt := if mgC a b = 0 then stS (a ++ b) else []
theorem mgL_len (a b : List Evt) : (mgL a b).length ≤ 100 := by
  unfold mgL
  split
  · rename_i h
    unfold mgC at h
    split at h
    · split at h
      · rw [stS_len, List.length_append]; assumption
      · omega
    · omega
  · simp
/-- The answer, in memory of its own. -/
def MgV (w w' : World) (e : Ending) (a b : List Evt) : Prop := ∃ v, e = .returned (.tuple #[v, .int .i64 (mgC a b)]) ∧ Own w' w.heap.size w'.heap.size 33 4 v (mgL a b).length (rEvent (mgL a b)) ∧ Below w.heap.size w w'
theorem mgV_bad {w w' : World} {a b : List Evt} {co : Int} (hc : mgC a b = co) (h0 : co ≠ 0) (hb : Below w.heap.size w w') : MgV w w' (.returned (.tuple #[.slice none 0 0, .int .i64 co])) a b := by
  refine ⟨.slice none 0 0, by rw [hc], ?_, hb⟩
  rw [show mgL a b = [] by simp [mgL, hc, h0]]
  exact ⟨World.ownsRow_nil _ _ _ _, fun g hg => by simp [Value.ownBlock] at hg⟩

set_option maxRecDepth 100000 in
set_option maxHeartbeats 2000000 in
theorem implMerge_any (va vb : Value) (na nb la lb : Nat) (a b : List Evt) (hn : na + nb ≤ 1048576) (w : World) (h1 : w.ownsRow la 33 4 va na (rEvent a)) (h2 : w.ownsRow lb 33 4 vb nb (rEvent b)) :
    Calls Try.prog 7 #[va, vb] w fun e w' => MgV w w' e a b := by
  have HLA : Hid (a.length = na) := hide (by have := h1.1; rw [rEvent_length] at this; omega)
  have HLB : Hid (b.length = nb) := hide (by have := h2.1; rw [rEvent_length] at this; omega)
  obtain ⟨Aa, ca, rfl, _, _, hra⟩ := (Own.of_owns h1).rd
  obtain ⟨Ab, cb, rfl, _, _, hrb⟩ := (Own.of_owns h2).rd
  have H1 := hide h1
  have H2 := hide h2
  have HRA := hide hra
  have HRB := hide hrb
  clear h1 h2 hra hrb
  cases ra : risV a
  · have HC : Hid (mgC a b = 1) := hide (by simp [mgC, ra])
    have RA := hide ra
    clear ra
    go_enter Try.func7, Try.ntmps7
    go_wp2_with fail
    refine (inTime_any _ na la a (by omega) _ H1.out).mono ?_
    rintro e w1 ⟨rfl, hb1⟩
    rw [RA.out]
    have HB1 := hide hb1
    clear hb1
    go_wp2_with fail
    go_ret2
    exact mgV_bad HC.out (by decide) HB1.out
  · have RA := hide ra
    cases rb : risV b
    · have HC : Hid (mgC a b = 1) := hide (by simp [mgC, rb])
      have RB := hide rb
      clear ra rb
      go_enter Try.func7, Try.ntmps7
      go_wp2_with fail
      refine (inTime_any _ na la a (by omega) _ H1.out).mono ?_
      rintro e w1 ⟨rfl, hb1⟩
      rw [RA.out]
      have HB1 := hide hb1
      clear hb1
      go_wp2_with fail
      refine (inTime_any _ nb lb b (by omega) _ (owns_below H2.out HB1.out)).mono ?_
      rintro e w2 ⟨rfl, hb2⟩
      rw [RB.out]
      have HB2 := hide (HB1.out.trans (hb2.mono HB1.out.size))
      clear hb2
      go_wp2_with fail
      go_ret2
      exact mgV_bad HC.out (by decide) HB2.out
    · have RB := hide rb
      by_cases hs : na + nb ≤ 100
      all_goals
        have HC0 : Hid (mgC a b = if na + nb ≤ 100 then 0 else 5) := hide (by simp [mgC, ra, rb, HLA.out, HLB.out])
        clear ra rb
        go_enter Try.func7, Try.ntmps7
        go_wp2_with fail
        refine (inTime_any _ na la a (by omega) _ H1.out).mono ?_
        rintro e w1 ⟨rfl, hb1⟩
        rw [RA.out]
        have HB1 := hide hb1
        clear hb1
        go_wp2_with fail
        refine (inTime_any _ nb lb b (by omega) _ (owns_below H2.out HB1.out)).mono ?_
        rintro e w2 ⟨rfl, hb2⟩
        rw [RB.out]
        have HB2 := hide (HB1.out.trans (hb2.mono HB1.out.size))
        have hs2 := HB2.out.size
        clear hb2 HB1
      · have z1 : ¬ (na : Int) + (nb : Int) > 100 := by omega
        go_wp2_with fail
        have hb3 : Below w.heap.size w (w2.alloc (.cells #[.slice Aa na ca, .slice Ab nb cb] 24)) := HB2.out.trans ((below_al w2 _).mono hs2)
        obtain ⟨W3, hW3, hs3, hbox⟩ : ∃ W3, w2.alloc (.cells #[.slice Aa na ca, .slice Ab nb cb] 24) = W3 ∧ w2.heap.size + 1 = W3.heap.size ∧ Box W3 w2.heap.size [.slice Aa na ca, .slice Ab nb cb] := ⟨_, rfl, alloc_size _ _, box_new _ _ _⟩
        rw [hW3] at hb3 ⊢
        clear hW3
        have HB3 := hide hb3
        have HBOX := hide hbox
        have hw1 := H1.out.2
        clear hb3 hbox hw1
        have hs4 := HB3.out.size
        refine (concat_two_E w2.heap.size Aa Ab na ca nb cb _ _ _ _ a b HLA.out HLB.out (by omega) (by omega) W3 (by omega) HBOX.out (HRA.out.below HB3.out (Nat.le_refl _)) (HRB.out.below HB3.out (Nat.le_refl _)) (by omega) (by omega)).mono ?_
        rintro e w4 ⟨v, rfl, ho4, hb4⟩
        have HO4 := hide ho4.1
        have HB4 := hide (HB3.out.trans (hb4.mono hs4))
        have hs5 := hb4.size
        clear ho4 hb4
        go_wp2_with fail
        refine (sortStable_any v (na + nb) W3.heap.size (a ++ b) (by omega) _ HO4.out).mono ?_
        rintro e w5 ⟨rfl, ho5, hg5⟩
        have HO5 := hide ho5
        have HB5 := hide (HB4.out.grown hg5 (by have := HB4.out.size; omega) (fun g hg => by have := (HO4.out.lt g hg).1; omega))
        clear ho5 hg5
        go_wp2_with fail
        go_ret2
        refine ⟨v, by rw [HC0.out, if_pos hs]; rfl, ?_, HB5.out⟩
        rw [show mgL a b = stS (a ++ b) by unfold mgL; rw [HC0.out, if_pos hs]; simp]
        rw [stS_len, List.length_append, HLA.out, HLB.out]
        exact (Own.of_owns HO5.out).mono (by omega) (Nat.le_refl _)
      · have HC : Hid (mgC a b = 5) := hide (by rw [HC0.out, if_neg hs])
        have z1 : (na : Int) + (nb : Int) > 100 := by omega
        go_wp2_with fail
        go_ret2
        exact mgV_bad HC.out (by decide) HB2.out
end Go.Proofs.Ytdmhoabidlagmaa
