/-
  A LATER MOTION: the reference's and the program's. No condition but those that each theorem names.
-/
import Derived.Test.YtoklcjpokffocaaFc
namespace Go.Proofs.Ytoklcjpokffocaa
open Go.RowKit
set_option linter.unusedVariables false

def lat (k : Nat) (l : List Int) : List Int := List.replicate k 0 ++ l
theorem lat_len (k : Nat) (l : List Int) : (lat k l).length = k + l.length := by simp [lat]

theorem made_zero (k : Nat) : (madeCells (Value.int .i64 0).cells (k * 1)).toList = rInt64 (List.replicate k 0) := by
  rw [Nat.mul_one, show (Value.int .i64 0).cells = #[.int .i64 0] from rfl, toList_madeCells_one]
  induction k with
  | zero => rfl
  | succ k ih => rw [List.replicate_succ, List.replicate_succ, ih]; rfl
theorem step_append_no {P : Program} {w : World} {ops : Array Oper} {o : Oper} {a : Act} {K : Act → World → Prop} {Q : Exit → Act → World → Prop} {E : Prop} (hgd : o.guard = none) (s x : Operand) (t : TypeId)
    (ho : o.op = .call { callee := .builtin .append, args := #[s, x], argTypes := #[t, t] })
    (e : TypeId) (i : TypeInfo) (ht : P.underlying t = some (.slice e)) (hi : P.info? e = some i)
    (g : Addr) (k cap : Nat) (hle : k ≤ cap) (A : Option Addr) (c : Nat) (hs : a.eval s = .slice (some g) k cap) (hx : a.eval x = .slice A 0 c)
    (h : K (a.put o.dst (.slice (some g) k cap)) w) : if Region.wanted o (yielded ops a.tmps) = true then Oper.wp P o a w K Q else E := by
  rw [if_pos (by simp [Region.wanted, hgd])]
  have hrun : (Builtin.append_ #[t, t] o.type #[.slice (some g) k cap, .slice A 0 c]).run P w = .ok (.slice (some g) k cap) w := by
    cases A <;> simp [Builtin.append_, run_underlying ht, sizeOf, typeInfo, hi, Builtin.lenOf, Builtin.firstCells, hle, storeCells, loadCells, loadCellsFrom]
  unfold Oper.wp
  simp [execOp, ho, resolve, invoke, builtin, hs, hx, hrun, Result.andThen]
  exact h
theorem rInt64_app (a b : List Int) : rInt64 (a ++ b) = rInt64 a ++ rInt64 b := by simp [rInt64, rows]
theorem own_lo {w : World} {base base' n size : Nat} {e : TypeId} {v : Value} {xs : List Value} (h : w.ownsRow base e size v n xs) (hb : base' ≤ base) : w.ownsRow base' e size v n xs := ((Own.of_owns h).mono hb (Nat.le_refl _)).1

theorem step_make_m {P : Program} (w : World) {ops : Array Oper} {o : Oper} {a : Act} {K : Act → World → Prop} {Q : Exit → Act → World → Prop} {E : Prop}
    (hg : o.guard = none) (l c : Operand) (t : TypeId) (hop : o.op = Op.makeSlice t l c)
    (base : Nat) (e : TypeId) (i : TypeInfo) (z : Value) (size : Nat) (h1 : P.underlying t = some (.slice e)) (h2 : P.info? e = some i) (h3 : i.zero = some z) (h4 : i.size = size)
    (n : Nat) (hl : a.eval l = .int .i64 (n : Int)) (hc : a.eval c = .int .i64 (n : Int)) (b2 : i.bytes * n ≤ 281474976710656) (b3 : n ≤ maxLen) (b4 : base ≤ w.heap.size)
    (hK : ∀ w', w'.ownsRow base e size (.slice (some ⟨w.heap.size, 0, none⟩) n n) n (madeCells z.cells (n * size)).toList → w.grownBy w' none → K (a.put o.dst (.slice (some ⟨w.heap.size, 0, none⟩) n n)) w') :
    if Region.wanted o (yielded ops a.tmps) = true then Oper.wp P o a w K Q else E := by
  rw [if_pos (by simp [Region.wanted, hg])]
  obtain ⟨w', hrun, r1, r2⟩ := run_make_full (P := P) w base t e i z size h1 h2 h3 h4 .i64 .i64 n b2 b3 b4
  unfold Oper.wp
  simp [execOp, hop, hl, hc, hrun, Result.andThen]
  exact hK w' r1 r2

set_option maxRecDepth 100000 in
set_option maxHeartbeats 1000000 in
theorem l16Later_pos (b : Nat) (ba off : Nat) (n c lo hi : Nat) (st : Int) (l : List Int) (hl : l.length = n) (hn0 : 0 < n) (hm : n ≤ 4096) (k : Nat) (hk : k ≤ 4096) (w : World) (hB : Box w b [.int .i64 st, .slice (some ⟨ba, off, none⟩) n c]) (hba : ba < w.heap.size) (hc : ∀ (j : Nat) (u : Value), (rInt64 l)[j]? = some u → w.cell? ⟨ba, off + j, none⟩ = some u) (hb : b < w.heap.size) :
    Calls Try.prog 23 #[.pointer (some ⟨b, 0, none⟩), .int .i64 k] w fun e w' => ∃ v, e = .returned (.agg #[.int .i64 st, v]) ∧ Own w' w.heap.size w'.heap.size 2 1 v (k + n) (rInt64 (lat k l)) ∧ Below w.heap.size w w' := by
  obtain ⟨i0, hi0, hz0, hz1, hz2⟩ := info_parts infoInt64
  have I := hide (And.intro hi0 (And.intro hz0 (And.intro hz1 hz2)))
  clear hi0 hz0 hz1 hz2
  obtain ⟨X, hX⟩ : ∃ X, w.alloc (.cells #[.int .i64 0, .slice none 0 0] 27) = X := ⟨_, rfl⟩
  have B1 := hB.alloc hb (.cells #[.int .i64 0, .slice none 0 0] 27)
  have B2 := box_new w #[.int .i64 0, .slice none 0 0] 27
  have F2 := fz_at w #[.int .i64 0, .slice none 0 0] 27 w.heap.size rfl
  have hbx := below_al w (.cells #[.int .i64 0, .slice none 0 0] 27)
  have hsx : X.heap.size = w.heap.size + 1 := by rw [← hX]; simp
  have hc2 : ∀ (j : Nat) (u : Value), (rInt64 l)[j]? = some u → X.cell? ⟨ba, off + j, none⟩ = some u := fun j u hu => by rw [← hX]; exact (World.cell?_alloc_lt w _ _ hba).trans (hc j u hu)
  rw [hX] at B1 B2 F2 hbx
  have HS : Hid (X.cell? ⟨b, 0, none⟩ = some (.int .i64 st) ∧ X.cell? ⟨b, 1, none⟩ = some (.slice (some ⟨ba, off, none⟩) n c) ∧ X.cell? ⟨w.heap.size, 0, none⟩ = some (.int .i64 0) ∧ X.cell? ⟨w.heap.size, 1, none⟩ = some (.slice none 0 0) ∧ X.frozen? ⟨w.heap.size, 0, none⟩ = false ∧ X.frozen? ⟨w.heap.size, 1, none⟩ = false) := hide ⟨B1 0 _ rfl, B1 1 _ rfl, B2 0 _ rfl, B2 1 _ rfl, F2 0, F2 1⟩
  have HC := hide hc2
  have HB := hide hbx
  have HL := hide hl
  clear hc hc2 hl hB B1 B2 F2 hbx
  have HX := hide hX
  clear hX
  go_enter Try.func23, Try.ntmps23
  go_upto_region 1 with fail
  rw [HX.out]
  clear HX
  obtain ⟨w1, hrun, hown, hgr⟩ := run_make_full (P := Try.prog) X.drew X.heap.size 25 2 i0 (.int .i64 0) 1 Try.underlying25 I.out.1 I.out.2.1 I.out.2.2.1 .i64 .i64 k (by rw [I.out.2.2.2]; omega) (by unfold maxLen; omega) (by show X.heap.size ≤ X.heap.size; omega)
  have HRUN := hide hrun
  clear hrun
  have HS1 : Hid (w1.cell? ⟨b, 0, none⟩ = some (.int .i64 st) ∧ w1.cell? ⟨b, 1, none⟩ = some (.slice (some ⟨ba, off, none⟩) n c) ∧ w1.cell? ⟨w.heap.size, 0, none⟩ = some (.int .i64 0) ∧ w1.cell? ⟨w.heap.size, 1, none⟩ = some (.slice none 0 0) ∧ w1.frozen? ⟨w.heap.size, 0, none⟩ = false ∧ w1.frozen? ⟨w.heap.size, 1, none⟩ = false) := hide ⟨(hgr.cell_far ⟨b, 0, none⟩ (by show b < X.heap.size; omega) (by simp)).trans HS.out.1, (hgr.cell_far ⟨b, 1, none⟩ (by show b < X.heap.size; omega) (by simp)).trans HS.out.2.1, (hgr.cell_far ⟨w.heap.size, 0, none⟩ (by show w.heap.size < X.heap.size; omega) (by simp)).trans HS.out.2.2.1, (hgr.cell_far ⟨w.heap.size, 1, none⟩ (by show w.heap.size < X.heap.size; omega) (by simp)).trans HS.out.2.2.2.1, (hgr.frozen_far ⟨w.heap.size, 0, none⟩ (by show w.heap.size < X.heap.size; omega) (by simp)).trans HS.out.2.2.2.2.1, (hgr.frozen_far ⟨w.heap.size, 1, none⟩ (by show w.heap.size < X.heap.size; omega) (by simp)).trans HS.out.2.2.2.2.2⟩
  have HC1 : Hid (∀ (j : Nat) (u : Value), (rInt64 l)[j]? = some u → w1.cell? ((⟨ba, off, none⟩ : Addr).add j) = some u) := hide (fun j u hu => by rw [Go.WideShapes.add_plain]; exact (hgr.cell_far ⟨ba, off + j, none⟩ (by show ba < X.heap.size; omega) (by simp)).trans (HC.out j u hu))
  have hs1 : X.heap.size + 1 ≤ w1.heap.size := by
    have := (hown.lt X.heap.size rfl).2
    omega
  have HB1 := hide ((HB.out.drew).grown hgr (by show w.heap.size ≤ X.heap.size; omega) (by simp))
  have HO := hide hown
  clear hown hgr
  go_region_held3 (fun W => W.cell? ⟨b, 0, none⟩ = some (.int .i64 st) ∧ W.cell? ⟨b, 1, none⟩ = some (.slice (some ⟨ba, off, none⟩) n c)) (first | exact ⟨HS2.out.1, HS2.out.2.1⟩ | exact ⟨HS1.out.1, HS1.out.2.1⟩ | exact ⟨HS.out.1, HS.out.2.1⟩ | exact ⟨((World.cell?_setCell_far _ _ ⟨b, 0, none⟩ _ (by show w.heap.size ≠ b; omega)).trans (World.cell?_setCell_far _ _ ⟨b, 0, none⟩ _ (by show w.heap.size ≠ b; omega))).trans HS2.out.1, ((World.cell?_setCell_far _ _ ⟨b, 1, none⟩ _ (by show w.heap.size ≠ b; omega)).trans (World.cell?_setCell_far _ _ ⟨b, 1, none⟩ _ (by show w.heap.size ≠ b; omega))).trans HS2.out.2.1⟩) (first | (rw [HRUN.out]; simp only [Result.andThen, Oper.upon]) | (refine step_append_lies _ (by rfl) _ _ _ (by rfl) X.heap.size 2 i0 _ 1 8 Try.underlying25 I.out.1 I.out.2.1 I.out.2.2.1 I.out.2.2.2 rfl (by omega) _ k _ (by rfl) HO.out ⟨ba, off, none⟩ n c (rInt64 l) (by rfl) (by rw [rInt64_length, HL.out]) HC1.out (by intro u hu; simp [rInt64, rows, cInt64] at hu; obtain ⟨x, _, rfl⟩ := hu; rfl) hn0 (by unfold maxLen; omega) (by omega) (by omega) _ rfl ?_; intro gg cap wn hown' hgrow hat hlt'; have HS2 : Hid (wn.cell? ⟨b, 0, none⟩ = some (.int .i64 st) ∧ wn.cell? ⟨b, 1, none⟩ = some (.slice (some ⟨ba, off, none⟩) n c) ∧ wn.cell? ⟨w.heap.size, 0, none⟩ = some (.int .i64 0) ∧ wn.cell? ⟨w.heap.size, 1, none⟩ = some (.slice none 0 0) ∧ wn.frozen? ⟨w.heap.size, 0, none⟩ = false ∧ wn.frozen? ⟨w.heap.size, 1, none⟩ = false) := hide ⟨(hgrow.cell_far ⟨b, 0, none⟩ (by show b < w1.heap.size; omega) (by simp [Value.ownBlock]; omega)).trans HS1.out.1, (hgrow.cell_far ⟨b, 1, none⟩ (by show b < w1.heap.size; omega) (by simp [Value.ownBlock]; omega)).trans HS1.out.2.1, (hgrow.cell_far ⟨w.heap.size, 0, none⟩ (by show w.heap.size < w1.heap.size; omega) (by simp [Value.ownBlock]; omega)).trans HS1.out.2.2.1, (hgrow.cell_far ⟨w.heap.size, 1, none⟩ (by show w.heap.size < w1.heap.size; omega) (by simp [Value.ownBlock]; omega)).trans HS1.out.2.2.2.1, (hgrow.frozen_far ⟨w.heap.size, 0, none⟩ (by show w.heap.size < w1.heap.size; omega) (by simp [Value.ownBlock]; omega)).trans HS1.out.2.2.2.2.1, (hgrow.frozen_far ⟨w.heap.size, 1, none⟩ (by show w.heap.size < w1.heap.size; omega) (by simp [Value.ownBlock]; omega)).trans HS1.out.2.2.2.2.2⟩; have HB2 := hide (HB1.out.grown hgrow (by omega) (by intro g hg; simp [Value.ownBlock] at hg; omega)); have HO2 := hide hown'; clear hown' hgrow; have r0 := HS2.out.2.2.1; have r1 := HS2.out.2.2.2.1; have r2 := HS2.out.2.2.2.2.1; have r3 := HS2.out.2.2.2.2.2))
  have BW : Box wn w.heap.size [.int .i64 0, .slice none 0 0] := by
    intro i v hv
    match i, hv with
    | 0, hv => simp at hv; subst hv; exact r0
    | 1, hv => simp at hv; subst hv; exact r1
    | i + 2, hv => simp at hv
  have BE := (BW.put 0 (.int .i64 st) (by simp)).put 1 (.slice (some ⟨gg, 0, none⟩) (k + n) cap) (by simp)
  have HOE := ownsRow_setCell_below (ownsRow_setCell_below HO2.out (a := ⟨w.heap.size, 0, none⟩) (by show w.heap.size < X.heap.size; omega) (.int .i64 st)) (a := ⟨w.heap.size, 1, none⟩) (by show w.heap.size < X.heap.size; omega) (.slice (some ⟨gg, 0, none⟩) (k + n) cap)
  have HBE : Below w.heap.size w ((wn.setCell ⟨w.heap.size, 0, none⟩ (.int .i64 st)).setCell ⟨w.heap.size, 1, none⟩ (.slice (some ⟨gg, 0, none⟩) (k + n) cap)) := by
    refine Below.setCell ?_ (by first | exact Nat.le_refl _ | (simp; try omega)) _
    refine Below.setCell ?_ (by first | exact Nat.le_refl _ | (simp; try omega)) _
    exact HB2.out
  rw [made_zero, ← rInt64_app] at HOE
  generalize ((wn.setCell ⟨w.heap.size, 0, none⟩ (.int .i64 st)).setCell ⟨w.heap.size, 1, none⟩ (.slice (some ⟨gg, 0, none⟩) (k + n) cap)) = WE at *
  have q0 := BE 0 _ rfl
  have q1 := BE 1 _ rfl
  have HO3 := hide (own_lo HOE (show w.heap.size ≤ X.heap.size by omega))
  have HB3 := hide HBE
  clear HOE HBE BE BW r0 r1 r2 r3
  go_wp2_with fail
  refine bodyPost_ret (v := .agg #[.int .i64 st, .slice (some ⟨gg, 0, none⟩) (k + n) cap]) (by simp [results, Try.results23, go_sem, q0, q1]) rfl ?_
  exact ⟨_, rfl, Own.of_owns HO3.out, HB3.out⟩
set_option maxRecDepth 100000 in
set_option maxHeartbeats 1000000 in
theorem l16Later_zero (b : Nat) (A : Option Addr) (c : Nat) (st : Int) (k : Nat) (hk : k ≤ 4096) (w : World) (hB : Box w b [.int .i64 st, .slice A 0 c]) (hb : b < w.heap.size) :
    Calls Try.prog 23 #[.pointer (some ⟨b, 0, none⟩), .int .i64 k] w fun e w' => ∃ v, e = .returned (.agg #[.int .i64 st, v]) ∧ Own w' w.heap.size w'.heap.size 2 1 v k (rInt64 (lat k [])) ∧ Below w.heap.size w w' := by
  obtain ⟨i0, hi0, hz0, hz1, hz2⟩ := info_parts infoInt64
  have I := hide (And.intro hi0 (And.intro hz0 (And.intro hz1 hz2)))
  clear hi0 hz0 hz1 hz2
  obtain ⟨X, hX⟩ : ∃ X, w.alloc (.cells #[.int .i64 0, .slice none 0 0] 27) = X := ⟨_, rfl⟩
  have B1 := hB.alloc hb (.cells #[.int .i64 0, .slice none 0 0] 27)
  have B2 := box_new w #[.int .i64 0, .slice none 0 0] 27
  have F2 := fz_at w #[.int .i64 0, .slice none 0 0] 27 w.heap.size rfl
  have hbx := below_al w (.cells #[.int .i64 0, .slice none 0 0] 27)
  have hsx : X.heap.size = w.heap.size + 1 := by rw [← hX]; simp
  rw [hX] at B1 B2 F2 hbx
  have HS : Hid (X.cell? ⟨b, 0, none⟩ = some (.int .i64 st) ∧ X.cell? ⟨b, 1, none⟩ = some (.slice A 0 c) ∧ X.cell? ⟨w.heap.size, 0, none⟩ = some (.int .i64 0) ∧ X.cell? ⟨w.heap.size, 1, none⟩ = some (.slice none 0 0) ∧ X.frozen? ⟨w.heap.size, 0, none⟩ = false ∧ X.frozen? ⟨w.heap.size, 1, none⟩ = false) := hide ⟨B1 0 _ rfl, B1 1 _ rfl, B2 0 _ rfl, B2 1 _ rfl, F2 0, F2 1⟩
  have HB := hide hbx
  clear hB B1 B2 F2 hbx
  have HX := hide hX
  clear hX
  go_enter Try.func23, Try.ntmps23
  go_upto_region 1 with fail
  rw [HX.out]
  clear HX
  obtain ⟨w1, hrun, hown, hgr⟩ := run_make_full (P := Try.prog) X.drew X.heap.size 25 2 i0 (.int .i64 0) 1 Try.underlying25 I.out.1 I.out.2.1 I.out.2.2.1 .i64 .i64 k (by rw [I.out.2.2.2]; omega) (by unfold maxLen; omega) (by show X.heap.size ≤ X.heap.size; omega)
  have HRUN := hide hrun
  clear hrun
  have HS1 : Hid (w1.cell? ⟨b, 0, none⟩ = some (.int .i64 st) ∧ w1.cell? ⟨b, 1, none⟩ = some (.slice A 0 c) ∧ w1.cell? ⟨w.heap.size, 0, none⟩ = some (.int .i64 0) ∧ w1.cell? ⟨w.heap.size, 1, none⟩ = some (.slice none 0 0) ∧ w1.frozen? ⟨w.heap.size, 0, none⟩ = false ∧ w1.frozen? ⟨w.heap.size, 1, none⟩ = false) := hide ⟨(hgr.cell_far ⟨b, 0, none⟩ (by show b < X.heap.size; omega) (by simp)).trans HS.out.1, (hgr.cell_far ⟨b, 1, none⟩ (by show b < X.heap.size; omega) (by simp)).trans HS.out.2.1, (hgr.cell_far ⟨w.heap.size, 0, none⟩ (by show w.heap.size < X.heap.size; omega) (by simp)).trans HS.out.2.2.1, (hgr.cell_far ⟨w.heap.size, 1, none⟩ (by show w.heap.size < X.heap.size; omega) (by simp)).trans HS.out.2.2.2.1, (hgr.frozen_far ⟨w.heap.size, 0, none⟩ (by show w.heap.size < X.heap.size; omega) (by simp)).trans HS.out.2.2.2.2.1, (hgr.frozen_far ⟨w.heap.size, 1, none⟩ (by show w.heap.size < X.heap.size; omega) (by simp)).trans HS.out.2.2.2.2.2⟩
  have hs1 : X.heap.size + 1 ≤ w1.heap.size := by
    have := (hown.lt X.heap.size rfl).2
    omega
  have HB1 := hide ((HB.out.drew).grown hgr (by show w.heap.size ≤ X.heap.size; omega) (by simp))
  have HO := hide hown
  clear hown hgr
  go_region_held3 (fun W => W.cell? ⟨b, 0, none⟩ = some (.int .i64 st) ∧ W.cell? ⟨b, 1, none⟩ = some (.slice A 0 c)) (first | exact ⟨HS1.out.1, HS1.out.2.1⟩ | exact ⟨HS.out.1, HS.out.2.1⟩ | exact ⟨((World.cell?_setCell_far _ _ ⟨b, 0, none⟩ _ (by show w.heap.size ≠ b; omega)).trans (World.cell?_setCell_far _ _ ⟨b, 0, none⟩ _ (by show w.heap.size ≠ b; omega))).trans HS1.out.1, ((World.cell?_setCell_far _ _ ⟨b, 1, none⟩ _ (by show w.heap.size ≠ b; omega)).trans (World.cell?_setCell_far _ _ ⟨b, 1, none⟩ _ (by show w.heap.size ≠ b; omega))).trans HS1.out.2.1⟩) (first | (rw [HRUN.out]; simp only [Result.andThen, Oper.upon]) | (refine step_append_no (by rfl) _ _ _ (by rfl) 2 i0 Try.underlying25 I.out.1 ⟨X.heap.size, 0, none⟩ k k (Nat.le_refl _) A c (by rfl) (by rfl) ?_; have r0 := HS1.out.2.2.1; have r1 := HS1.out.2.2.2.1; have r2 := HS1.out.2.2.2.2.1; have r3 := HS1.out.2.2.2.2.2))
  have BW : Box w1 w.heap.size [.int .i64 0, .slice none 0 0] := by
    intro i v hv
    match i, hv with
    | 0, hv => simp at hv; subst hv; exact r0
    | 1, hv => simp at hv; subst hv; exact r1
    | i + 2, hv => simp at hv
  have BE := (BW.put 0 (.int .i64 st) (by simp)).put 1 (.slice (some ⟨w.heap.size + 1, 0, none⟩) k k) (by simp)
  have HOE := ownsRow_setCell_below (ownsRow_setCell_below HO.out (a := ⟨w.heap.size, 0, none⟩) (by show w.heap.size < X.heap.size; omega) (.int .i64 st)) (a := ⟨w.heap.size, 1, none⟩) (by show w.heap.size < X.heap.size; omega) (.slice (some ⟨w.heap.size + 1, 0, none⟩) k k)
  have HBE : Below w.heap.size w ((w1.setCell ⟨w.heap.size, 0, none⟩ (.int .i64 st)).setCell ⟨w.heap.size, 1, none⟩ (.slice (some ⟨w.heap.size + 1, 0, none⟩) k k)) := by
    refine Below.setCell ?_ (by first | exact Nat.le_refl _ | (simp; try omega)) _
    refine Below.setCell ?_ (by first | exact Nat.le_refl _ | (simp; try omega)) _
    exact HB1.out
  have hsd : X.drew.heap.size = w.heap.size + 1 := hsx
  rw [made_zero, hsx, hsd, ← List.append_nil (List.replicate k 0)] at HOE
  generalize ((w1.setCell ⟨w.heap.size, 0, none⟩ (.int .i64 st)).setCell ⟨w.heap.size, 1, none⟩ (.slice (some ⟨w.heap.size + 1, 0, none⟩) k k)) = WE at *
  have q0 := BE 0 _ rfl
  have q1 := BE 1 _ rfl
  have HO3 := hide (own_lo HOE (show w.heap.size ≤ w.heap.size + 1 by omega))
  have HB3 := hide HBE
  clear HOE HBE BE BW r0 r1 r2 r3
  go_wp2_with fail
  refine bodyPost_ret (v := .agg #[.int .i64 st, .slice (some ⟨w.heap.size + 1, 0, none⟩) k k]) (by simp [results, Try.results23, go_sem, q0, q1]) rfl ?_
  exact ⟨_, rfl, Own.of_owns HO3.out, HB3.out⟩
end Go.Proofs.Ytoklcjpokffocaa
