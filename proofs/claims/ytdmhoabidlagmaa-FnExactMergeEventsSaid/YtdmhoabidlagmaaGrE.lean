/-
  slices.Grow of nothing and slices.Concat of two, at events. No condition but those that each theorem names.
-/
import Derived.Test.YtdmhoabidlagmaaMg1
import Derived.Lib.AppendZeros
import Derived.Laws.AppendOwn
namespace Go.Proofs.Ytdmhoabidlagmaa
open Go.RowKit
set_option linter.unusedVariables false
set_option linter.unusedSimpArgs false

theorem below_al (w : World) (o : Obj) : Below w.heap.size w (w.alloc o) := (Below.refl _ _).alloc (Nat.le_refl _) o

set_option maxHeartbeats 1000000 in
theorem grow_zero_E (w : World) :
    Calls Try.prog 19 #[.slice none 0 0, .int .i64 0] w fun e w' => e = .returned (.slice none 0 0) ∧ w' = w := by
  go_enter Try.func19, Try.ntmps19
  go_wp2_with fail
  go_ret
  exact ⟨rfl, rfl⟩

set_option maxHeartbeats 1000000 in
theorem grow_pos_E (n : Nat) (h0 : 0 < n) (hm : n ≤ 10000) (w : World) :
    Calls Try.prog 19 #[.slice none 0 0, .int .i64 n] w fun e w' => ∃ v, e = .returned v ∧ w'.ownsRow w.heap.size 33 4 v 0 [] ∧ Below w.heap.size w w' := by
  obtain ⟨i0, hi0, hz0, hz1, hz2⟩ := info_parts infoEvent
  have I := hide (And.intro hi0 (And.intro hz0 (And.intro hz1 hz2)))
  clear hi0 hz0 hz1 hz2
  have z0 : ¬ (n : Int) < 0 := by omega
  have z1 : (0 : Int) < (n : Int) := by omega
  have hrun := Lib.run_append_nil_zeros (P := Try.prog) w 24 3 24 33 i0 (.agg #[.int .i64 0, .int .i64 0, .int .i64 0, .int .i64 0]) .i64 .i64 Try.underlying24 (by kernel_rfl) I.out.1 I.out.2.1 n h0 (by rw [I.out.2.2.1]; decide) (by omega) (by rw [I.out.2.2.2]; omega)
  obtain ⟨g, hg⟩ : ∃ g, grownCap w n 0 33 = g := ⟨_, rfl⟩
  rw [hg] at hrun
  have g1 : n ≤ g := by rw [← hg]; exact grownCap_ge _ _ _ _
  have g2 : g ≤ maxLen := by rw [← hg]; exact grownCap_le_maxLen _ _ _ _ (by unfold maxLen; omega)
  have HRUN := hide hrun
  clear hrun hg
  go_enter Try.func19, Try.ntmps19
  go_wp2_with (at_builtin; refine Lib.wpList_append_run _ (by rfl) (.tmp 20) (.tmp 21) 24 3 (by rfl) _ _ (by rfl) (by rfl) _ _ HRUN.out ?_)
  go_ret
  refine ⟨_, rfl, ?_, (below_al _ _).drew⟩
  exact World.ownsRow_made (base := w.heap.size) (size := 4) w _ g (Nat.le_refl _) g2 (by simp [Builtin.zeroCells]; omega)

theorem grow_any_E (m : Nat) (hm : m ≤ 10000) (x : Int) (hx : x = (m : Int)) (w : World) :
    Calls Try.prog 19 #[.slice none 0 0, .int .i64 x] w fun e w' => ∃ v, e = .returned v ∧ w'.ownsRow w.heap.size 33 4 v 0 [] ∧ Below w.heap.size w w' := by
  subst hx
  rcases Nat.eq_zero_or_pos m with rfl | h0
  · refine (grow_zero_E w).mono ?_
    rintro e w' ⟨rfl, rfl⟩
    exact ⟨_, rfl, World.ownsRow_nil _ _ _ _, Below.refl _ _⟩
  · exact grow_pos_E m h0 hm w

/-- An append of numbers, of none perhaps, to numbers that are the call's own. -/
theorem append_rd_E {P : Program} (w : World) (t ty : TypeId) (base : Nat) (e : TypeId) (i : TypeInfo) (z : Value) (size bytes : Nat) (ht : P.underlying t = some (.slice e)) (hi : P.info? e = some i) (hz : i.zero = some z)
    (hsize : i.size = size) (hby : i.bytes = bytes) (hzs : z.cells.size = size) (hsz : 0 < size)
    (v : Value) (n : Nat) (xs : List Value) (hown : w.ownsRow base e size v n xs)
    (A : Option Addr) (m c lo hi' : Nat) (news : List Value) (hrd : Rd w lo hi' size A m news) (h1 : ∀ u ∈ news, u.oneCell' = true)
    (h63 : n + m ≤ maxLen) (hbytes : (n + m) * bytes ≤ 140737488355328) (hbase : base ≤ w.heap.size) :
    ∃ v' w', (Builtin.append_ #[t, t] ty #[v, .slice A m c]).run P w = .ok v' w' ∧ w'.ownsRow base e size v' (n + m) (xs ++ news) ∧ w.grownBy w' v.ownBlock := by
  rcases Nat.eq_zero_or_pos m with rfl | h0
  · have hn0 : news = [] := List.eq_nil_of_length_eq_zero (by have := hrd.1; omega)
    subst hn0
    refine ⟨v, w, ?_, by simpa using hown, ⟨rfl, rfl, rfl, Nat.le_refl _, fun _ _ _ => rfl⟩⟩
    rcases Joins.ownsRow_forms hown with ⟨rfl, rfl⟩ | ⟨g, cap, rfl⟩
    · cases A <;> simp [Builtin.append_, run_underlying ht, sizeOf, typeInfo, hi, Builtin.lenOf, Builtin.firstCells, loadCells, loadCellsFrom]
    · have hle : n ≤ cap := by
        rcases hown.2 with ⟨e, _⟩ | ⟨_, _, _, e, _, _, q, _⟩
        · simp at e
        · injection e with _ _ e; subst e; exact q
      cases A <;> simp [Builtin.append_, run_underlying ht, sizeOf, typeInfo, hi, Builtin.lenOf, Builtin.firstCells, hle, storeCells, loadCells, loadCellsFrom]
  · obtain ⟨b, off, rfl, _, _, hc⟩ := hrd.2 h0
    obtain ⟨v', w', k1, k2, k3, _⟩ := run_append_own (P := P) w base t ty e i z size bytes ht hi hz hsize hby hzs hsz v n xs hown ⟨b, off, none⟩ m c news hrd.1 (fun j u hu => by rw [Go.WideShapes.add_plain]; exact hc j u hu) h1 h63 hbytes hbase
    exact ⟨v', w', k1, k2, k3⟩
theorem oneI_E (l : List Evt) : ∀ u ∈ rEvent l, u.oneCell' = true := by
  intro u hu
  simp [rEvent, rows, cEvent] at hu
  obtain ⟨x1, x2, x3, x4, _, hu⟩ := hu
  rcases hu with rfl | rfl | rfl | rfl <;> rfl

set_option maxRecDepth 100000 in
set_option maxHeartbeats 2000000 in
theorem concat_two_E (p : Nat) (A B : Option Addr) (k c n d la ha lb hb : Nat) (a b : List Evt) (hak : a.length = k) (hbn : b.length = n) (hk : k ≤ 4096) (hn : n ≤ 4096) (w : World) (hp : p < w.heap.size) (hP : Box w p [.slice A k c, .slice B n d])
    (hA : Rd w la ha 4 A k (rEvent a)) (hB : Rd w lb hb 4 B n (rEvent b)) (hha : ha ≤ w.heap.size) (hhb : hb ≤ w.heap.size) :
    Calls Try.prog 14 #[.slice (some ⟨p, 0, none⟩) 2 2] w fun e w' => ∃ v, e = .returned v ∧ Own w' w.heap.size w'.heap.size 33 4 v (k + n) (rEvent (a ++ b)) ∧ Below w.heap.size w w' := by
  obtain ⟨i0, hi0, hz0, hz1, hz2⟩ := info_parts infoEvent
  have I := hide (And.intro hi0 (And.intro hz0 (And.intro hz1 hz2)))
  clear hi0 hz0 hz1 hz2
  have p0 := hP 0 _ rfl
  have p1 := hP 1 _ rfl
  have HA := hide hA
  have HB := hide hB
  have HAK := hide hak
  have HBN := hide hbn
  clear hA hB hak hbn hP
  go_enter Try.func14, Try.ntmps14
  go_wp2_with fail
  go_loop [3, 5, 11] (fun s _ i => (i = .int .i64 0 ∧ s = .int .i64 0) ∨ (i = .int .i64 1 ∧ s = .int .i64 k) ∨ (i = .int .i64 2 ∧ s = .int .i64 ((k : Int) + n))) (fun _ _ i => 2 - (intOf i).toNat)
  case atStart => exact .inl ⟨rfl, rfl⟩
  case round =>
    rcases hrel with ⟨rfl, rfl⟩ | ⟨rfl, rfl⟩ | ⟨rfl, rfl⟩
    · have z0 : ¬ (k : Int) < 0 := by omega
      go_wp2_with fail
      go_round
      case rel => exact .inr (.inl ⟨rfl, rfl⟩)
      case measure => simp [intOf]
    · have z0 : ¬ (k : Int) + n < 0 := by omega
      go_wp2_with fail
      go_round
      case rel => exact .inr (.inr ⟨rfl, rfl⟩)
      case measure => simp [intOf]
    · go_wp2_with fail
      refine (grow_any_E (k + n) (by omega) _ (by omega) w).mono ?_
      rintro e w1 ⟨v1, rfl, ho1, hb1⟩
      have hs1 := hb1.size
      have HO1 := hide ho1
      have HB1 := hide hb1
      clear ho1 hb1
      go_wp2_with fail
      go_loopw [6, 8, 27] (fun v _ i wr => Hid (Below w.heap.size w wr) ∧ ((i = .int .i64 0 ∧ Hid (wr.ownsRow w.heap.size 33 4 v 0 [])) ∨ (i = .int .i64 1 ∧ Hid (wr.ownsRow w.heap.size 33 4 v k (rEvent a))) ∨ (i = .int .i64 2 ∧ Hid (wr.ownsRow w.heap.size 33 4 v (k + n) (rEvent (a ++ b)))))) (fun _ _ i _ => 2 - (intOf i).toNat)
      case atStart => exact ⟨HB1, .inl ⟨rfl, HO1⟩⟩
      case round =>
        obtain ⟨HBR, hcase⟩ := hrel
        have hszr := HBR.out.size
        have e0 := (HBR.out.cell (p := ⟨p, 0, none⟩) hp).trans p0
        have e1 := (HBR.out.cell (p := ⟨p, 1, none⟩) hp).trans p1
        clear p0 p1
        rcases hcase with ⟨rfl, HO⟩ | ⟨rfl, HO⟩ | ⟨rfl, HO⟩
        · obtain ⟨v', w', hrun, ho', hg⟩ := append_rd_E (P := Try.prog) wr 24 24 w.heap.size 33 i0 (.agg #[.int .i64 0, .int .i64 0, .int .i64 0, .int .i64 0]) 4 32 Try.underlying24 I.out.1 I.out.2.1 I.out.2.2.1 I.out.2.2.2 rfl (by decide) u6 (0) ([]) HO.out A k c la ha (rEvent a) (HA.out.below HBR.out hha) (oneI_E a) (by unfold maxLen; omega) (by omega) (by omega)
          have hb' : Below w.heap.size w w' := HBR.out.grown hg (by omega) (fun g hg => (HO.out.lt g hg).1)
          have HRUN := hide hrun
          have HO2 := hide ho'
          have HB2 := hide hb'
          clear hrun ho' hg hb'
          go_wp2_with (at_builtin; refine Lib.wpList_append_run _ (by rfl) (.tmp 31) (.tmp 32) 24 24 (by rfl) _ _ (by rfl) (by rfl) _ _ HRUN.out ?_)
          go_roundw
          case rel => exact ⟨HB2, .inr (.inl ⟨rfl, hide (by have q := HO2.out; rw [Nat.zero_add, List.nil_append] at q; exact q)⟩)⟩
          case measure => simp [intOf]
        · obtain ⟨v', w', hrun, ho', hg⟩ := append_rd_E (P := Try.prog) wr 24 24 w.heap.size 33 i0 (.agg #[.int .i64 0, .int .i64 0, .int .i64 0, .int .i64 0]) 4 32 Try.underlying24 I.out.1 I.out.2.1 I.out.2.2.1 I.out.2.2.2 rfl (by decide) u6 (k) (rEvent a) HO.out B n d lb hb (rEvent b) (HB.out.below HBR.out hhb) (oneI_E b) (by unfold maxLen; omega) (by omega) (by omega)
          have hb' : Below w.heap.size w w' := HBR.out.grown hg (by omega) (fun g hg => (HO.out.lt g hg).1)
          have HRUN := hide hrun
          have HO2 := hide ho'
          have HB2 := hide hb'
          clear hrun ho' hg hb'
          go_wp2_with (at_builtin; refine Lib.wpList_append_run _ (by rfl) (.tmp 31) (.tmp 32) 24 24 (by rfl) _ _ (by rfl) (by rfl) _ _ HRUN.out ?_)
          go_roundw
          case rel => exact ⟨HB2, .inr (.inr ⟨rfl, hide (by rw [rE_app]; exact HO2.out)⟩)⟩
          case measure => simp [intOf]
        · go_wp2_with fail
          go_ret
          exact ⟨_, rfl, Own.of_owns HO.out, HBR.out⟩
end Go.Proofs.Ytdmhoabidlagmaa
