/-
  TABLES as the reference draws them: the table of two cranes. What stands in it is left open, but for its form. No condition but those that each theorem names.
-/
import Derived.Test.YtoklcjpokffocaaGeo4
import Derived.Test.YtoklcjpokffocaaNext
import Derived.Test.YtoklcjpokffocaaFamSBool
namespace Go.Proofs.Ytoklcjpokffocaa
open Go.RowKit
set_option linter.unusedVariables false
set_option linter.unusedSimpArgs false

theorem rrB_snoc (l : List (List Bool)) (r : List Bool) : rrBool (l ++ [r]) = rrBool l ++ [rBool r] := by simp [rrBool]
theorem rB_snoc (l : List Bool) (b : Bool) : rBool (l ++ [b]) = rBool l ++ [.bool b] := by simp [rBool, rows, cBool]
/-- Some table of k rows of 24. -/
def TabV (w : World) (lo hi : Nat) (v : Value) (k : Nat) : Prop := ∃ T : List (List Bool), T.length = k ∧ (∀ r ∈ T, r.length = 24) ∧ OwnSS w lo hi 60 4 v k (rrBool T)
theorem TabV.nil_ (w : World) (cs : Array Value) (hcs : cs.size = 0) (lo : Nat) (hlo : lo ≤ w.heap.size) : TabV (w.alloc (.cells cs 60)) lo (w.alloc (.cells cs 60)).heap.size (.slice (some ⟨w.heap.size, 0, none⟩) 0 0) 0 := by
  refine ⟨[], rfl, (fun r h => absurd h (by simp)), [], Own.of_owns ?_, Rows.nil _ _ _ _⟩
  obtain rfl : cs = #[] := by simpa using hcs
  exact ⟨rfl, .inr ⟨w.heap.size, 0, #[], rfl, hlo, heap_alloc_new w _, Nat.le_refl _, by unfold maxLen; omega, rfl, rfl⟩⟩
theorem TabV.snoc {wr w1 : World} {lo mid k : Nat} {v u v' : Value} {r : List Bool} {c0 : Array Value} {us : List Value} {T : List (List Bool)} (hT : T.length = k) (hTr : ∀ r ∈ T, r.length = 24) (hr : r.length = 24)
    (ho : Own wr lo wr.heap.size 60 1 v k us) (hro : Rows wr lo mid 4 us (rrBool T)) (hnew : Own wr mid wr.heap.size 4 1 u 24 (rBool r)) (hlo : lo ≤ mid) (hmid : mid ≤ wr.heap.size)
    (hg : (wr.alloc (.cells c0 60)).grownBy w1 v.ownBlock) (ho1 : w1.ownsRow lo 60 1 v' (k + 1) (us ++ [u])) : TabV w1 lo w1.heap.size v' (k + 1) := by
  refine ⟨T ++ [r], by simp [hT], fun x hx => ?_, ?_⟩
  · rcases List.mem_append.1 hx with h | h
    · exact hTr x h
    · obtain rfl : x = r := by simpa using h
      exact hr
  · rw [rrB_snoc]
    exact ss_snoc3 (r := rBool r) (by decide) ho hro (by rw [rBool_len1, hr]; exact hnew) hlo hmid hg ho1
/-- A row under construction. -/
def RowV (w : World) (lo hi : Nat) (v : Value) (j : Nat) : Prop := ∃ r : List Bool, r.length = j ∧ Own w lo hi 4 1 v j (rBool r)
theorem RowV.nil_ (w : World) (lo : Nat) (hlo : lo ≤ w.heap.size) : RowV (w.alloc (.cells #[] 4)) lo (w.alloc (.cells #[] 4)).heap.size (.slice (some ⟨w.heap.size, 0, none⟩) 0 0) 0 := by
  refine ⟨[], rfl, Own.of_owns ?_⟩
  exact ⟨rfl, .inr ⟨w.heap.size, 0, #[], rfl, hlo, heap_alloc_new w _, Nat.le_refl _, by unfold maxLen; omega, rfl, rfl⟩⟩
theorem TabV.okT {w : World} {lo hi : Nat} {v : Value} (h : TabV w lo hi v 24) : ∃ A n c T, v = .slice A n c ∧ n ≤ maxLen ∧ okT T = true ∧ RdSS w lo hi A n (rrBool T) := by
  obtain ⟨T, h1, h2, h3⟩ := h
  obtain ⟨A, c, rfl, hnc, hcm, hr⟩ := h3.rd
  exact ⟨A, 24, c, T, rfl, by omega, by unfold Go.Proofs.Ytoklcjpokffocaa.okT; simp [h1]; exact h2, hr⟩

set_option maxRecDepth 100000 in
set_option maxHeartbeats 2000000 in
theorem l15Table_g (ga gb : Nat) (dist : Int) (w : World) (hA : CrB w ga) (hB : CrB w gb) :
    Calls Try.prog 61 #[.pointer (some ⟨ga, 0, none⟩), .pointer (some ⟨gb, 0, none⟩), .int .i64 dist] w fun e w' => ∃ v, e = .returned v ∧ TabV w' w.heap.size w'.heap.size v 24 ∧ Below w.heap.size w w' := by
  obtain ⟨i0, hi0, hz0, hz1, hz2⟩ := info_parts infoSBool
  obtain ⟨j0, hj0, hq0, hq1, hq2⟩ := info_parts infoBool
  have I := hide (And.intro hi0 (And.intro hz0 (And.intro hz1 hz2)))
  have II := hide (And.intro hj0 (And.intro hq0 (And.intro hq1 hq2)))
  clear hi0 hz0 hz1 hz2 hj0 hq0 hq1 hq2
  have HCA := hide hA
  have HCB := hide hB
  have hga := hA.1
  have hgb := hB.1
  clear hA hB
  go_enter Try.func61, Try.ntmps61
  go_wp2_with fail
  go_loopw [7, 8] (fun v i wr => ∃ k : Nat, k ≤ 24 ∧ i = .int .i64 k ∧ Hid (TabV wr w.heap.size wr.heap.size v k) ∧ Below w.heap.size w wr) (fun _ i _ => 24 - (intOf i).toNat)
  case atStart => exact ⟨0, by omega, rfl, hide (TabV.nil_ w #[] rfl _ (Nat.le_refl _)), (Below.refl _ _).alloc (Nat.le_refl _) _⟩
  case round =>
    obtain ⟨k, hk, rfl, HW, hbr⟩ := hrel
    have hsz := hbr.size
    by_cases hlt : k < 24
    · have x1 : (k : Int) < 24 := by omega
      have x2 : decide ((k : Int) < 24) = true := by simpa using x1
      obtain ⟨wo, rfl⟩ : ∃ wo : World, wo = wr := ⟨_, rfl⟩
      go_wp2_with fail
      go_loopw [9, 10] (fun v i wr => ∃ j : Nat, j ≤ 24 ∧ i = .int .i64 j ∧ Hid (RowV wr wo.heap.size wr.heap.size v j) ∧ Below wo.heap.size wo wr) (fun _ i _ => 24 - (intOf i).toNat)
      case atStart => exact ⟨0, by omega, rfl, hide (RowV.nil_ wo _ (Nat.le_refl _)), (Below.refl _ _).alloc (Nat.le_refl _) _⟩
      case round =>
        obtain ⟨j, hj, rfl, HR, hbq⟩ := hrel
        have hsq := hbq.size
        by_cases hlj : j < 24
        · have y1 : (j : Int) < 24 := by omega
          go_wp2_with fail
          refine (l15Conflict_g ga gb k j dist (by omega) (by omega) (by omega) (by omega) _ ((HCA.out.below hbr hga).below hbq (by omega)) ((HCB.out.below hbr hgb).below hbq (by omega))).mono ?_
          rintro e w3 ⟨y, rfl, hb3⟩
          have hs3 := hb3.size
          obtain ⟨r, hr, hro⟩ := HR.out
          have HRL := hide hr
          have HRW := hide ((hro.below hb3 (Nat.le_refl _)).mono (Nat.le_refl _) hs3)
          have hb3' := hbq.trans (hb3.mono hsq)
          clear hr hro HR hb3
          go_wp2_with (at_builtin; refine wpList_append_own _ rfl (.tmp 21) (.tmp 28) 60 rfl wo.heap.size 4 j0 (.bool false) 1 1 Try.underlying60 II.out.1 II.out.2.1 II.out.2.2.1 II.out.2.2.2 rfl (by decide) _ _ _ rfl (HRW.out.1.alloc _) ⟨w3.heap.size, 0, none⟩ 1 1 [.bool y] rfl rfl (news_at2 _ _ _ _ rfl) (by simp [Value.oneCell']) (by unfold maxLen; omega) (by omega) (by simp; omega) ?_; intro v' wn hown' hgrow _)
          go_roundw
          case rel =>
            refine ⟨j + 1, by omega, by go_num, hide ⟨r ++ [y], by simp [HRL.out], ?_⟩, (hb3'.alloc (by omega) _).grown hgrow (by simp; omega) (fun g hg => (HRW.out.lt g hg).1)⟩
            rw [rB_snoc]
            exact Own.of_owns hown'
          case measure => simp [intOf]; omega
        · obtain rfl : j = 24 := by omega
          obtain ⟨r, hr, hnew⟩ := HR.out
          obtain ⟨gr, cr, rfl⟩ := Joins.ownsRow_form hnew.1 (by omega)
          obtain ⟨T, hT, hTr, us, ho1, hro⟩ := HW.out
          have HRL := hide hr
          have HNW := hide hnew
          have HT := hide hT
          have HTR := hide hTr
          have HOO := hide ((ho1.below hbq (Nat.le_refl _)).mono (Nat.le_refl _) hsq)
          have HRO := hide (hro.below hbq (Nat.le_refl _))
          have hbt := hbr.trans (hbq.mono hsz)
          clear ho1 hro hr hnew hT hTr HR HW
          go_wp2_with (at_builtin; refine wpList_append_own _ rfl (.tmp 30) (.tmp 32) 24 rfl w.heap.size 60 i0 (.slice none 0 0) 1 24 Try.underlying24 I.out.1 I.out.2.1 I.out.2.2.1 I.out.2.2.2 rfl (by decide) _ k us rfl (HOO.out.1.alloc _) ⟨wr.heap.size, 0, none⟩ 1 1 [.slice (some ⟨gr, 0, none⟩) 24 cr] rfl rfl (news_at2 _ _ _ _ rfl) (by simp [Value.oneCell']) (by unfold maxLen; omega) (by omega) (by simp; omega) ?_; intro v' wn hown' hgrow _)
          go_roundw
          case rel =>
            exact ⟨k + 1, by omega, by go_num, hide (TabV.snoc HT.out HTR.out HRL.out HOO.out HRO.out HNW.out hsz hsq hgrow hown'), (hbt.alloc (by omega) _).grown hgrow (by simp; omega) (fun g hg => (HOO.out.lt g hg).1)⟩
          case measure => simp [intOf]; omega
    · obtain rfl : k = 24 := by omega
      go_wp2_with fail
      go_ret
      exact ⟨_, rfl, HW.out, hbr⟩


end Go.Proofs.Ytoklcjpokffocaa
