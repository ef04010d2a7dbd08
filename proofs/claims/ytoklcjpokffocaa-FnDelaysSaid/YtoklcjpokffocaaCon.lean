/-
  slices.Concat of two slices of numbers. No condition but those that the theorem names.
-/
import Derived.Test.YtoklcjpokffocaaGrw
import Derived.Laws.AppendOwn
namespace Go.Proofs.Ytoklcjpokffocaa
open Go.RowKit
set_option linter.unusedVariables false
set_option linter.unusedSimpArgs false

theorem grow_any (m : Nat) (hm : m ≤ 10000) (x : Int) (hx : x = (m : Int)) (w : World) :
    Calls Try.prog 63 #[.slice none 0 0, .int .i64 x] w fun e w' => ∃ v, e = .returned v ∧ w'.ownsRow w.heap.size 2 1 v 0 [] ∧ Below w.heap.size w w' := by
  subst hx
  rcases Nat.eq_zero_or_pos m with rfl | h0
  · refine (grow_zero w).mono ?_
    rintro e w' ⟨rfl, rfl⟩
    exact ⟨_, rfl, World.ownsRow_nil _ _ _ _, Below.refl _ _⟩
  · exact grow_pos m h0 hm w

/-- An append of numbers, of none perhaps, to numbers that are the call's own. -/
theorem append_rd {P : Program} (w : World) (t ty : TypeId) (base : Nat) (e : TypeId) (i : TypeInfo) (z : Value) (bytes : Nat) (ht : P.underlying t = some (.slice e)) (hi : P.info? e = some i) (hz : i.zero = some z)
    (hsize : i.size = 1) (hby : i.bytes = bytes) (hzs : z.cells.size = 1)
    (v : Value) (n : Nat) (xs : List Value) (hown : w.ownsRow base e 1 v n xs)
    (A : Option Addr) (m c lo hi' : Nat) (news : List Value) (hrd : Rd w lo hi' 1 A m news) (h1 : ∀ u ∈ news, u.oneCell' = true)
    (h63 : n + m ≤ maxLen) (hbytes : (n + m) * bytes ≤ 140737488355328) (hbase : base ≤ w.heap.size) :
    ∃ v' w', (Builtin.append_ #[t, t] ty #[v, .slice A m c]).run P w = .ok v' w' ∧ w'.ownsRow base e 1 v' (n + m) (xs ++ news) ∧ w.grownBy w' v.ownBlock := by
  rcases Nat.eq_zero_or_pos m with rfl | h0
  · have hn0 : news = [] := List.eq_nil_of_length_eq_zero (by have := hrd.1; omega)
    subst hn0
    refine ⟨v, w, ?_, by simpa using hown, ⟨rfl, rfl, rfl, Nat.le_refl _, fun _ _ _ => rfl⟩⟩
    rcases Joins.ownsRow_forms hown with ⟨rfl, rfl⟩ | ⟨g, cap, rfl⟩
    · cases A <;> simp [Builtin.append_, run_underlying ht, sizeOf, typeInfo, hi, Builtin.lenOf, Builtin.firstCells, loadCells, loadCellsFrom]
    · have hle : n ≤ cap := by
        rcases hown.2 with ⟨e, _⟩ | ⟨_, _, _, e, _, _, q, _⟩
        · simp at e
        · injection e with _ _ e; subst e; exact q
      cases A <;> simp [Builtin.append_, run_underlying ht, sizeOf, typeInfo, hi, Builtin.lenOf, Builtin.firstCells, hle, storeCells, loadCells, loadCellsFrom]
  · obtain ⟨b, off, rfl, _, _, hc⟩ := hrd.2 h0
    obtain ⟨v', w', k1, k2, k3, _⟩ := run_append_own (P := P) w base t ty e i z 1 bytes ht hi hz hsize hby hzs (by omega) v n xs hown ⟨b, off, none⟩ m c news hrd.1 (fun j u hu => by rw [Go.WideShapes.add_plain]; exact hc j u hu) h1 h63 hbytes hbase
    exact ⟨v', w', k1, k2, k3⟩
theorem oneI (l : List Int) : ∀ u ∈ rInt64 l, u.oneCell' = true := by
  intro u hu
  simp [rInt64, rows, cInt64] at hu
  obtain ⟨x, _, rfl⟩ := hu
  rfl

set_option maxRecDepth 100000 in
set_option maxHeartbeats 2000000 in
theorem concat_two (p : Nat) (A B : Option Addr) (k c n d la ha lb hb : Nat) (a b : List Int) (hak : a.length = k) (hbn : b.length = n) (hk : k ≤ 4096) (hn : n ≤ 4096) (w : World) (hp : p < w.heap.size) (hP : Box w p [.slice A k c, .slice B n d])
    (hA : Rd w la ha 1 A k (rInt64 a)) (hB : Rd w lb hb 1 B n (rInt64 b)) (hha : ha ≤ w.heap.size) (hhb : hb ≤ w.heap.size) :
    Calls Try.prog 48 #[.slice (some ⟨p, 0, none⟩) 2 2] w fun e w' => ∃ v, e = .returned v ∧ Own w' w.heap.size w'.heap.size 2 1 v (k + n) (rInt64 (a ++ b)) ∧ Below w.heap.size w w' := by
  obtain ⟨i0, hi0, hz0, hz1, hz2⟩ := info_parts infoInt64
  have I := hide (And.intro hi0 (And.intro hz0 (And.intro hz1 hz2)))
  clear hi0 hz0 hz1 hz2
  have p0 := hP 0 _ rfl
  have p1 := hP 1 _ rfl
  have HA := hide hA
  have HB := hide hB
  have HAK := hide hak
  have HBN := hide hbn
  clear hA hB hak hbn hP
  go_enter Try.func48, Try.ntmps48
  go_wp2_with fail
  go_loop [3, 5, 11] (fun s _ i => (i = .int .i64 0 ∧ s = .int .i64 0) ∨ (i = .int .i64 1 ∧ s = .int .i64 k) ∨ (i = .int .i64 2 ∧ s = .int .i64 ((k : Int) + n))) (fun _ _ i => 2 - (intOf i).toNat)
  case atStart => exact .inl ⟨rfl, rfl⟩
  case round =>
    rcases hrel with ⟨rfl, rfl⟩ | ⟨rfl, rfl⟩ | ⟨rfl, rfl⟩
    · have z0 : ¬ (k : Int) < 0 := by omega
      go_wp2_with fail
      go_round
      case rel => exact .inr (.inl ⟨rfl, rfl⟩)
      case measure => simp [intOf]
    · have z0 : ¬ (k : Int) + n < 0 := by omega
      go_wp2_with fail
      go_round
      case rel => exact .inr (.inr ⟨rfl, rfl⟩)
      case measure => simp [intOf]
    · go_wp2_with fail
      refine (grow_any (k + n) (by omega) _ (by omega) w).mono ?_
      rintro e w1 ⟨v1, rfl, ho1, hb1⟩
      have hs1 := hb1.size
      have HO1 := hide ho1
      have HB1 := hide hb1
      clear ho1 hb1
      go_wp2_with fail
      go_loopw [6, 8, 27] (fun v _ i wr => Hid (Below w.heap.size w wr) ∧ ((i = .int .i64 0 ∧ Hid (wr.ownsRow w.heap.size 2 1 v 0 [])) ∨ (i = .int .i64 1 ∧ Hid (wr.ownsRow w.heap.size 2 1 v k (rInt64 a))) ∨ (i = .int .i64 2 ∧ Hid (wr.ownsRow w.heap.size 2 1 v (k + n) (rInt64 (a ++ b)))))) (fun _ _ i _ => 2 - (intOf i).toNat)
      case atStart => exact ⟨HB1, .inl ⟨rfl, HO1⟩⟩
      case round =>
        obtain ⟨HBR, hcase⟩ := hrel
        have hszr := HBR.out.size
        have e0 := (HBR.out.cell (p := ⟨p, 0, none⟩) hp).trans p0
        have e1 := (HBR.out.cell (p := ⟨p, 1, none⟩) hp).trans p1
        clear p0 p1
        rcases hcase with ⟨rfl, HO⟩ | ⟨rfl, HO⟩ | ⟨rfl, HO⟩
        · obtain ⟨v', w', hrun, ho', hg⟩ := append_rd (P := Try.prog) wr 25 25 w.heap.size 2 i0 (.int .i64 0) 8 Try.underlying25 I.out.1 I.out.2.1 I.out.2.2.1 I.out.2.2.2 rfl u6 (0) ([]) HO.out A k c la ha (rInt64 a) (HA.out.below HBR.out hha) (oneI a) (by unfold maxLen; omega) (by omega) (by omega)
          have hb' : Below w.heap.size w w' := HBR.out.grown hg (by omega) (fun g hg => (HO.out.lt g hg).1)
          have HRUN := hide hrun
          have HO2 := hide ho'
          have HB2 := hide hb'
          clear hrun ho' hg hb'
          go_wp2_with (at_builtin; refine Lib.wpList_append_run _ (by rfl) (.tmp 31) (.tmp 32) 25 25 (by rfl) _ _ (by rfl) (by rfl) _ _ HRUN.out ?_)
          go_roundw
          case rel => exact ⟨HB2, .inr (.inl ⟨rfl, hide (by have q := HO2.out; rw [Nat.zero_add, List.nil_append] at q; exact q)⟩)⟩
          case measure => simp [intOf]
        · obtain ⟨v', w', hrun, ho', hg⟩ := append_rd (P := Try.prog) wr 25 25 w.heap.size 2 i0 (.int .i64 0) 8 Try.underlying25 I.out.1 I.out.2.1 I.out.2.2.1 I.out.2.2.2 rfl u6 (k) (rInt64 a) HO.out B n d lb hb (rInt64 b) (HB.out.below HBR.out hhb) (oneI b) (by unfold maxLen; omega) (by omega) (by omega)
          have hb' : Below w.heap.size w w' := HBR.out.grown hg (by omega) (fun g hg => (HO.out.lt g hg).1)
          have HRUN := hide hrun
          have HO2 := hide ho'
          have HB2 := hide hb'
          clear hrun ho' hg hb'
          go_wp2_with (at_builtin; refine Lib.wpList_append_run _ (by rfl) (.tmp 31) (.tmp 32) 25 25 (by rfl) _ _ (by rfl) (by rfl) _ _ HRUN.out ?_)
          go_roundw
          case rel => exact ⟨HB2, .inr (.inr ⟨rfl, hide (by rw [rInt64_app]; exact HO2.out)⟩)⟩
          case measure => simp [intOf]
        · go_wp2_with fail
          go_ret
          exact ⟨_, rfl, Own.of_owns HO.out, HBR.out⟩
end Go.Proofs.Ytoklcjpokffocaa
