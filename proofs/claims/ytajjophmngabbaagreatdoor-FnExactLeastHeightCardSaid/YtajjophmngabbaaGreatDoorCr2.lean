/-
  CRANES: a slice of structs that hold a text, numbers and a slice each: copies. No condition but those that each theorem names.
-/
import Derived.Test.YtajjophmngabbaaGreatDoorCr
namespace Go.Proofs.YtajjophmngabbaaGreatDoor
open Go.RowKit
set_option linter.unusedVariables false

set_option maxRecDepth 100000 in
set_option maxHeartbeats 2000000 in
theorem toPoint_any (x y : Int) (w : World) :
    Calls Tryz.prog 39 #[.agg #[.int .i64 x, .int .i64 y]] w fun e w' => e = .returned (.agg #[.int .i64 x, .int .i64 y]) ∧ Below w.heap.size w w' := by
  go_enter Tryz.func39, Tryz.ntmps39
  go_wp2
  refine bodyPost_ret (v := .agg #[.int .i64 x, .int .i64 y]) (by simp [results, Tryz.results39, go_sem]) rfl ⟨rfl, ?_⟩
  repeat (first | exact Below.refl _ _ | refine Below.drew ?_ | refine Below.alloc ?_ (by first | omega | (simp; done) | (simp; omega)) _ | refine Below.setCell ?_ (by first | omega | (simp; done) | (simp; omega)) _)

set_option maxRecDepth 100000 in
set_option maxHeartbeats 2000000 in
theorem eqPoint_same (x y : Int) (w : World) :
    Calls Tryz.prog 47 #[.agg #[.int .i64 x, .int .i64 y], .agg #[.int .i64 x, .int .i64 y]] w fun e w' => e = .returned (.bool true) ∧ Below w.heap.size w w' := by
  go_enter Tryz.func47, Tryz.ntmps47
  go_wp2
  go_ret
  exact ⟨rfl, ((Below.refl _ _).alloc (Nat.le_refl _) _).alloc (by simp) _⟩

set_option maxRecDepth 100000 in
set_option maxHeartbeats 2000000 in
theorem toCrane_any (nm : ByteArray) (x y h j b : Int) (Ai : Option Addr) (ni ci : Nat) (lo hi : Nat) (ch : List (Int × Int)) (hn : ni ≤ 1048576) (w : World) (hl : ch.length = ni) (hr : Rd w lo hi 2 Ai ni (rChartStep ch)) (hhi : hi ≤ w.heap.size) :
    Calls Tryz.prog 27 #[.agg #[.string nm, .int .i64 x, .int .i64 y, .int .i64 h, .int .i64 j, .int .i64 b, .slice Ai ni ci]] w fun e w' => ∃ Aj cj, e = .returned (.agg #[.string nm, .int .i64 x, .int .i64 y, .int .i64 h, .int .i64 j, .int .i64 b, .slice Aj ni cj]) ∧ Own w' w.heap.size w'.heap.size 93 2 (.slice Aj ni cj) ni (rChartStep ch) ∧ Below w.heap.size w w' := by
  have HL := hide hl
  clear hl
  go_enter Tryz.func27, Tryz.ntmps27
  go_wp2_with fail
  obtain ⟨W0, hW0⟩ : ∃ W0 : World, W0 = (((w.alloc (.cells #[.string nm, .int .i64 x, .int .i64 y, .int .i64 h, .int .i64 j, .int .i64 b, .slice Ai ni ci] 61)).alloc (.cells #[.string ⟨#[]⟩, .int .i64 0, .int .i64 0, .int .i64 0, .int .i64 0, .int .i64 0, .slice none 0 0] 45)).alloc (.cells #[.string nm, .int .i64 0, .int .i64 0, .int .i64 0, .int .i64 0, .int .i64 0, .slice none 0 0] 45)) := ⟨_, rfl⟩
  rw [← hW0]
  have bS : Box W0 (w.heap.size) [.string nm, .int .i64 x, .int .i64 y, .int .i64 h, .int .i64 j, .int .i64 b, .slice Ai ni ci] := by rw [hW0]; exact ((box_at _ _ _ _ (by simp)).alloc (by simp) _).alloc (by simp; try omega) _
  have bZ : Box W0 (w.heap.size + 1) [.string ⟨#[]⟩, .int .i64 0, .int .i64 0, .int .i64 0, .int .i64 0, .int .i64 0, .slice none 0 0] := by rw [hW0]; exact (box_at _ _ _ _ (by simp)).alloc (by simp) _
  have bZf : Fz W0 (w.heap.size + 1) := by rw [hW0]; exact (fz_at _ _ _ _ (by simp)).alloc (by simp) _
  have bO : Box W0 (w.heap.size + 2) [.string nm, .int .i64 0, .int .i64 0, .int .i64 0, .int .i64 0, .int .i64 0, .slice none 0 0] := by rw [hW0]; exact box_at _ _ _ _ (by simp)
  have bOf : Fz W0 (w.heap.size + 2) := by rw [hW0]; exact fz_at _ _ _ _ (by simp)
  have hB : Below w.heap.size w W0 := by rw [hW0]; exact (by repeat (first | exact Below.refl _ _ | refine Below.drew ?_ | refine Below.alloc ?_ (by first | (simp; done) | (simp; omega)) _))
  have hs0 : w.heap.size + 3 ≤ W0.heap.size := by rw [hW0]; first | (simp; done) | (simp; omega)
  clear hW0
  replace hr := hr.below hB (by omega)
  refine (toPoint_any x y _).mono ?_
  rintro e w1 ⟨rfl, hb⟩
  have hbb : Below W0.heap.size W0 w1 := Below.trans (by repeat (first | exact Below.refl _ _ | refine Below.drew ?_ | refine Below.alloc ?_ (by first | (simp; done) | (simp; omega)) _)) (Below.mono hb (by simp))
  clear hb
  have hs1 := hbb.size
  replace hr := hr.below hbb (by omega)
  replace bS := bS.below hbb (by omega)
  replace bZ := bZ.below hbb (by omega)
  replace bZf := bZf.below hbb (by omega)
  replace bO := bO.below hbb (by omega)
  replace bOf := bOf.below hbb (by omega)
  replace hB := hB.trans (hbb.mono (by omega))
  clear hbb
  have nbS : w.heap.size < w1.heap.size := by omega
  have lbS_0 := bS 0 _ rfl
  have lbS_1 := bS 1 _ rfl
  have lbS_2 := bS 2 _ rfl
  have lbS_3 := bS 3 _ rfl
  have lbS_4 := bS 4 _ rfl
  have lbS_5 := bS 5 _ rfl
  have lbS_6 := bS 6 _ rfl
  have nbO : w.heap.size + 2 < w1.heap.size := by omega
  have lbO_0 := bO 0 _ rfl
  have lbO_1 := bO 1 _ rfl
  have lbO_2 := bO 2 _ rfl
  have lbO_3 := bO 3 _ rfl
  have lbO_4 := bO 4 _ rfl
  have lbO_5 := bO 5 _ rfl
  have lbO_6 := bO 6 _ rfl
  have lfbO_0 := bOf 0
  have lfbO_1 := bOf 1
  have lfbO_2 := bOf 2
  have lfbO_3 := bOf 3
  have lfbO_4 := bOf 4
  have lfbO_5 := bOf 5
  have lfbO_6 := bOf 6
  go_wp2_with fail
  clear nbS lbS_0 lbS_1 lbS_2 lbS_3 lbS_4 lbS_5 lbS_6 nbO lbO_0 lbO_1 lbO_2 lbO_3 lbO_4 lbO_5 lbO_6 lfbO_0 lfbO_1 lfbO_2 lfbO_3 lfbO_4 lfbO_5 lfbO_6
  generalize hwx : World.setCell _ _ _ = w2
  replace bO : Box w2 (w.heap.size + 2) [.string nm, .int .i64 x, .int .i64 y, .int .i64 h, .int .i64 j, .int .i64 b, .slice none 0 0] := by rw [← hwx]; exact (Box.put (Box.put (Box.put (Box.put (Box.put bO 1 _ (by simp)) 2 _ (by simp)) 3 _ (by simp)) 4 _ (by simp)) 5 _ (by simp))
  replace bOf : Fz w2 (w.heap.size + 2) := by rw [← hwx]; exact (((((bOf.set _ _).set _ _).set _ _).set _ _).set _ _)
  replace bS : Box w2 (w.heap.size) [.string nm, .int .i64 x, .int .i64 y, .int .i64 h, .int .i64 j, .int .i64 b, .slice Ai ni ci] := by rw [← hwx]; exact (Box.far (Box.far (Box.far (Box.far (Box.far bS _ _ (by simp; try omega)) _ _ (by simp; try omega)) _ _ (by simp; try omega)) _ _ (by simp; try omega)) _ _ (by simp; try omega))
  replace bZ : Box w2 (w.heap.size + 1) [.string ⟨#[]⟩, .int .i64 0, .int .i64 0, .int .i64 0, .int .i64 0, .int .i64 0, .slice none 0 0] := by rw [← hwx]; exact (Box.far (Box.far (Box.far (Box.far (Box.far bZ _ _ (by simp; try omega)) _ _ (by simp; try omega)) _ _ (by simp; try omega)) _ _ (by simp; try omega)) _ _ (by simp; try omega))
  replace bZf : Fz w2 (w.heap.size + 1) := by rw [← hwx]; exact (((((bZf.set _ _).set _ _).set _ _).set _ _).set _ _)
  have hs2 : w2.heap.size = w1.heap.size := by rw [← hwx]; simp
  have hbb : Below w.heap.size w1 w2 := by rw [← hwx]; (repeat (with_reducible refine Below.setCell ?_ (by simp; try omega) _)); exact Below.refl _ _
  replace hr := hr.below hbb (by omega)
  replace hB := hB.trans hbb
  clear hwx hbb
  refine (toChartStepS_any Ai ni ci lo hi ch hn _ HL.out hr (by omega)).mono ?_
  rintro e w3 ⟨vv, rfl, ho, hb⟩
  have hbb : Below w2.heap.size w2 w3 := Below.trans (by repeat (first | exact Below.refl _ _ | refine Below.drew ?_ | refine Below.alloc ?_ (by first | (simp; done) | (simp; omega)) _)) (Below.mono hb (by simp))
  clear hb
  have hs3 := hbb.size
  replace hr := hr.below hbb (by omega)
  replace bS := bS.below hbb (by omega)
  replace bZ := bZ.below hbb (by omega)
  replace bZf := bZf.below hbb (by omega)
  replace bO := bO.below hbb (by omega)
  replace bOf := bOf.below hbb (by omega)
  replace hB := hB.trans (hbb.mono (by omega))
  clear hbb
  obtain ⟨Aj, cj, rfl, hnj, hcj, hrj⟩ := ho.rd
  have nbZ : w.heap.size + 1 < w3.heap.size := by omega
  have lbZ_0 := bZ 0 _ rfl
  have lbZ_1 := bZ 1 _ rfl
  have lbZ_2 := bZ 2 _ rfl
  have lbZ_3 := bZ 3 _ rfl
  have lbZ_4 := bZ 4 _ rfl
  have lbZ_5 := bZ 5 _ rfl
  have lbZ_6 := bZ 6 _ rfl
  have lfbZ_0 := bZf 0
  have lfbZ_1 := bZf 1
  have lfbZ_2 := bZf 2
  have lfbZ_3 := bZf 3
  have lfbZ_4 := bZf 4
  have lfbZ_5 := bZf 5
  have lfbZ_6 := bZf 6
  have nbO : w.heap.size + 2 < w3.heap.size := by omega
  have lbO_0 := bO 0 _ rfl
  have lbO_1 := bO 1 _ rfl
  have lbO_2 := bO 2 _ rfl
  have lbO_3 := bO 3 _ rfl
  have lbO_4 := bO 4 _ rfl
  have lbO_5 := bO 5 _ rfl
  have lbO_6 := bO 6 _ rfl
  have lfbO_0 := bOf 0
  have lfbO_1 := bOf 1
  have lfbO_2 := bOf 2
  have lfbO_3 := bOf 3
  have lfbO_4 := bOf 4
  have lfbO_5 := bOf 5
  have lfbO_6 := bOf 6
  go_wp2_with fail
  refine bodyPost_ret (v := .agg #[.string nm, .int .i64 x, .int .i64 y, .int .i64 h, .int .i64 j, .int .i64 b, .slice Aj ni cj]) (by simp [results, Tryz.results27, go_sem, lbZ_0, lbZ_1, lbZ_2, lbZ_3, lbZ_4, lbZ_5, lbZ_6]) rfl ⟨Aj, cj, rfl, ?_, ?_⟩
  · refine (ho.of_block (w' := _) fun g hg => ?_).mono (by omega) (by simp)
    have hg2 := ho.lt g hg
    have hne1 : g ≠ w.heap.size + 1 := by omega
    have hne2 : g ≠ w.heap.size + 2 := by omega
    repeat (with_reducible refine (Below.heap_setCell _ _ _ _ (by simp; try omega)).trans ?_)
    rfl
  · repeat (with_reducible refine Below.setCell ?_ (by simp; try omega) _)
    exact hB

theorem FzA.of {w : World} {b : Nat} (h : ∀ i, w.frozen? ⟨b, i, none⟩ = false) {o : Nat} : FzA w (some ⟨b, o, none⟩) := by
  intro a ha i; obtain rfl := Option.some.inj ha; exact h i
/-- A store into another crane of the same row. -/
theorem CrAt.far {w : World} {lo hi b o : Nat} {c : Crn} (h : CrAt w lo hi true b o c) (q : Nat) (v : Value) (hq : q < o ∨ o + 7 ≤ q) : CrAt (w.setCell ⟨b, q, none⟩ v) lo hi true b o c := by
  obtain ⟨Ai, ci, h1, h2, h3, h4⟩ := h
  obtain ⟨k1, k2⟩ := h4 rfl
  refine ⟨Ai, ci, fun i u hu => ?_, h2, ⟨h3.1, fun hn => ?_⟩, fun _ => ⟨fun i => (World.frozen?_setCell _ _ _ _).trans (k1 i), fun a ha => (k2 a ha).imp id fun ⟨e1, e2⟩ => ⟨e1, fun i => (World.frozen?_setCell _ _ _ _).trans (e2 i)⟩⟩⟩
  · have hi : i < 7 := by have := (List.getElem?_eq_some_iff.1 hu).1; simpa [cCr] using this
    exact (World.cell?_setCell_other (w := w) (a := ⟨b, q, none⟩) (b := ⟨b, o + i, none⟩) (v := v) (by intro e; injection e with _ e2; omega)).trans (h1 i u hu)
  · obtain ⟨bb, oo, hA, q1, q2, q3⟩ := h3.2 hn
    refine ⟨bb, oo, hA, q1, q2, fun j u hu => ?_⟩
    rcases k2 _ hA with e | ⟨e, _⟩
    · omega
    · exact (World.cell?_setCell_far _ _ _ _ (fun e2 => e e2.symm)).trans (q3 j u hu)
/-- Seven stores one behind the other. -/
theorem set7 {W : World} {b o : Nat} {v0 v1 v2 v3 v4 v5 v6 : Value} (he : ∀ j, j < 7 → ∃ u, W.cell? ⟨b, o + j, none⟩ = some u) :
    ∀ i v, [v0, v1, v2, v3, v4, v5, v6][i]? = some v → (((((((W.setCell ⟨b, o, none⟩ v0).setCell ⟨b, o + 1, none⟩ v1).setCell ⟨b, o + 2, none⟩ v2).setCell ⟨b, o + 3, none⟩ v3).setCell ⟨b, o + 4, none⟩ v4).setCell ⟨b, o + 5, none⟩ v5).setCell ⟨b, o + 6, none⟩ v6).cell? ⟨b, o + i, none⟩ = some v := by
  have ho : ∀ (V : World) (p q : Nat) (z : Value), p ≠ q → (V.setCell ⟨b, o + p, none⟩ z).cell? ⟨b, o + q, none⟩ = V.cell? ⟨b, o + q, none⟩ := fun V p q z hpq => World.cell?_setCell_other (w := V) (a := ⟨b, o + p, none⟩) (b := ⟨b, o + q, none⟩) (v := z) (by intro e; injection e with _ e2; omega)
  have hs : ∀ (V : World) (p : Nat) (z : Value), (∃ u, V.cell? ⟨b, o + p, none⟩ = some u) → (V.setCell ⟨b, o + p, none⟩ z).cell? ⟨b, o + p, none⟩ = some z := fun V p z ⟨u, hu⟩ => World.cell?_setCell_same (w := V) (a := ⟨b, o + p, none⟩) (v := z) hu
  have hx : ∀ (V : World) (a : Addr) (z : Value) (p : Addr), (∃ u, V.cell? p = some u) → ∃ u, (V.setCell a z).cell? p = some u := fun V a z p ⟨u, hu⟩ => by
    obtain ⟨u', hu'⟩ := cell?_setCell_some (w := V) (p := a) (x := z) (q := p) hu
    exact ⟨u', hu'⟩
  intro i v hv
  match i, hv with
  | 0, hv => obtain rfl := Option.some.inj hv; exact ((ho _ 6 0 _ (by omega)).trans ((ho _ 5 0 _ (by omega)).trans ((ho _ 4 0 _ (by omega)).trans ((ho _ 3 0 _ (by omega)).trans ((ho _ 2 0 _ (by omega)).trans ((ho _ 1 0 _ (by omega)).trans (hs _ 0 _ (he 0 (by omega)))))))))
  | 1, hv => obtain rfl := Option.some.inj hv; exact ((ho _ 6 1 _ (by omega)).trans ((ho _ 5 1 _ (by omega)).trans ((ho _ 4 1 _ (by omega)).trans ((ho _ 3 1 _ (by omega)).trans ((ho _ 2 1 _ (by omega)).trans (hs _ 1 _ (hx _ _ _ _ (he 1 (by omega)))))))))
  | 2, hv => obtain rfl := Option.some.inj hv; exact ((ho _ 6 2 _ (by omega)).trans ((ho _ 5 2 _ (by omega)).trans ((ho _ 4 2 _ (by omega)).trans ((ho _ 3 2 _ (by omega)).trans (hs _ 2 _ (hx _ _ _ _ (hx _ _ _ _ (he 2 (by omega)))))))))
  | 3, hv => obtain rfl := Option.some.inj hv; exact ((ho _ 6 3 _ (by omega)).trans ((ho _ 5 3 _ (by omega)).trans ((ho _ 4 3 _ (by omega)).trans (hs _ 3 _ (hx _ _ _ _ (hx _ _ _ _ (hx _ _ _ _ (he 3 (by omega)))))))))
  | 4, hv => obtain rfl := Option.some.inj hv; exact ((ho _ 6 4 _ (by omega)).trans ((ho _ 5 4 _ (by omega)).trans (hs _ 4 _ (hx _ _ _ _ (hx _ _ _ _ (hx _ _ _ _ (hx _ _ _ _ (he 4 (by omega)))))))))
  | 5, hv => obtain rfl := Option.some.inj hv; exact ((ho _ 6 5 _ (by omega)).trans (hs _ 5 _ (hx _ _ _ _ (hx _ _ _ _ (hx _ _ _ _ (hx _ _ _ _ (hx _ _ _ _ (he 5 (by omega)))))))))
  | 6, hv => obtain rfl := Option.some.inj hv; exact (hs _ 6 _ (hx _ _ _ _ (hx _ _ _ _ (hx _ _ _ _ (hx _ _ _ _ (hx _ _ _ _ (hx _ _ _ _ (he 6 (by omega)))))))))
  | _ + 7, hv => simp at hv
/-- Behind seven stores at o: the frame. -/
theorem set7_far {W : World} {b o : Nat} {v0 v1 v2 v3 v4 v5 v6 : Value} {p : Addr} (hp : p.block ≠ b) : (((((((W.setCell ⟨b, o, none⟩ v0).setCell ⟨b, o + 1, none⟩ v1).setCell ⟨b, o + 2, none⟩ v2).setCell ⟨b, o + 3, none⟩ v3).setCell ⟨b, o + 4, none⟩ v4).setCell ⟨b, o + 5, none⟩ v5).setCell ⟨b, o + 6, none⟩ v6).cell? p = W.cell? p := by
  have h : ∀ (V : World) (q : Nat) (z : Value), (V.setCell ⟨b, q, none⟩ z).cell? p = V.cell? p := fun V q z => World.cell?_setCell_far V ⟨b, q, none⟩ p z (fun e => hp e.symm)
  exact (h _ _ _).trans ((h _ _ _).trans ((h _ _ _).trans ((h _ _ _).trans ((h _ _ _).trans ((h _ _ _).trans (h _ _ _))))))
theorem set7_cr {W : World} {b o lo hi : Nat} {v0 v1 v2 v3 v4 v5 v6 : Value} {c : Crn} {q : Nat} (h : CrAt W lo hi true b q c) (hq : q + 7 ≤ o ∨ o + 7 ≤ q) :
    CrAt (((((((W.setCell ⟨b, o, none⟩ v0).setCell ⟨b, o + 1, none⟩ v1).setCell ⟨b, o + 2, none⟩ v2).setCell ⟨b, o + 3, none⟩ v3).setCell ⟨b, o + 4, none⟩ v4).setCell ⟨b, o + 5, none⟩ v5).setCell ⟨b, o + 6, none⟩ v6) lo hi true b q c :=
  ((((((h.far o v0 (by omega)).far (o + 1) v1 (by omega)).far (o + 2) v2 (by omega)).far (o + 3) v3 (by omega)).far (o + 4) v4 (by omega)).far (o + 5) v5 (by omega)).far (o + 6) v6 (by omega)
theorem set7_fz {W : World} {b o : Nat} {v0 v1 v2 v3 v4 v5 v6 : Value} {p : Addr} : (((((((W.setCell ⟨b, o, none⟩ v0).setCell ⟨b, o + 1, none⟩ v1).setCell ⟨b, o + 2, none⟩ v2).setCell ⟨b, o + 3, none⟩ v3).setCell ⟨b, o + 4, none⟩ v4).setCell ⟨b, o + 5, none⟩ v5).setCell ⟨b, o + 6, none⟩ v6).frozen? p = W.frozen? p := by
  have h : ∀ (V : World) (a : Addr) (z : Value), (V.setCell a z).frozen? p = V.frozen? p := fun V a z => World.frozen?_setCell V a p z
  exact (h _ _ _).trans ((h _ _ _).trans ((h _ _ _).trans ((h _ _ _).trans ((h _ _ _).trans ((h _ _ _).trans (h _ _ _))))))
theorem set7_ex {W : World} {b o : Nat} {v0 v1 v2 v3 v4 v5 v6 : Value} {p : Addr} (h : ∃ u, W.cell? p = some u) : ∃ u, (((((((W.setCell ⟨b, o, none⟩ v0).setCell ⟨b, o + 1, none⟩ v1).setCell ⟨b, o + 2, none⟩ v2).setCell ⟨b, o + 3, none⟩ v3).setCell ⟨b, o + 4, none⟩ v4).setCell ⟨b, o + 5, none⟩ v5).setCell ⟨b, o + 6, none⟩ v6).cell? p = some u := by
  have hx : ∀ (V : World) (a : Addr) (z : Value), (∃ u, V.cell? p = some u) → ∃ u, (V.setCell a z).cell? p = some u := fun V a z ⟨u, hu⟩ => by
    obtain ⟨u', hu'⟩ := cell?_setCell_some (w := V) (p := a) (x := z) (q := p) hu
    exact ⟨u', hu'⟩
  exact hx _ _ _ (hx _ _ _ (hx _ _ _ (hx _ _ _ (hx _ _ _ (hx _ _ _ (hx _ _ _ h))))))
/-- Where a row of the call's own lies. -/
theorem own_at {w : World} {lo hi E s n c : Nat} {A : Option Addr} {xs : List Value} (h : Own w lo hi E s (.slice A n c) n xs) : ∀ a, A = some a → n = 0 ∨ (lo ≤ a.block ∧ ∀ i, w.frozen? ⟨a.block, i, none⟩ = false) := by
  intro a ha
  subst ha
  rcases Nat.eq_zero_or_pos n with h0 | hp
  · exact .inl h0
  · right
    obtain ⟨g, cap, hv⟩ := Joins.ownsRow_form h.1 hp
    injection hv with e1 _ e3
    obtain rfl := Option.some.inj e1
    subst e3
    exact ⟨(h.lt g rfl).1, fun i => h.1.frozenAt i⟩
theorem infoCrane : (Tryz.prog.info? 45).map (fun i => (i.zero, i.size, i.bytes)) = some (some (.agg #[.string ⟨#[]⟩, .int .i64 0, .int .i64 0, .int .i64 0, .int .i64 0, .int .i64 0, .slice none 0 0]), 7, 80) := by kernel_rfl

set_option maxRecDepth 100000 in
set_option maxHeartbeats 2000000 in
theorem toCraneS_any (A : Option Addr) (n c lo hi : Nat) (own : Bool) (l : List Crn) (hn : n ≤ 1048576) (hch : ∀ p ∈ l, p.ch.length ≤ 1048576) (w : World) (h : RdC w lo hi own A n l) (hhi : hi ≤ w.heap.size) :
    Calls Tryz.prog 15 #[.slice A n c] w fun e w' => ∃ A', e = .returned (.slice A' n n) ∧ RdC w' w.heap.size w'.heap.size true A' n l ∧ Below w.heap.size w w' := by
  obtain ⟨i0, hi0, hz0, hz1, hz2⟩ := info_parts infoCrane
  go_enter Tryz.func15, Tryz.ntmps15
  go_wp2_with (at_make; refine wpList_make_full _ rfl (.tmp 6) (.tmp 6) 28 rfl w.heap.size 45 i0 (.agg #[.string ⟨#[]⟩, .int .i64 0, .int .i64 0, .int .i64 0, .int .i64 0, .int .i64 0, .slice none 0 0]) 7 Tryz.underlying28 hi0 hz0 hz1 .i64 .i64 _ _ n rfl rfl rfl rfl (by rw [hz2]; omega) (by unfold maxLen; omega) (Nat.le_refl _) ?_; intro w1 hown hg)
  clear hi0 hz0 hz1 hz2
  have hlen := h.length
  have H1 := hide hlen
  have H2 := hide h
  have H3 := hide hch
  clear h hch hlen
  have hb1 : Below w.heap.size w w1 := (Below.refl _ _).grown hg (Nat.le_refl _) (by simp)
  have hs1 : w.heap.size < w1.heap.size := (hown.lt w.heap.size (by simp [Value.ownBlock])).2
  have HE : Hid (∀ q, q < n * 7 → ∃ u, w1.cell? ⟨w.heap.size, q, none⟩ = some u) := hide (fun q hq => ⟨_, (hown.cellAt q (by omega)).trans (List.getElem?_eq_getElem (by have := hown.1; omega))⟩)
  have HF : Hid (∀ q, w1.frozen? ⟨w.heap.size, q, none⟩ = false) := hide (fun q => hown.frozenAt q)
  clear hown hg
  go_loopw [4] (fun i wr => ∃ k : Nat, k ≤ n ∧ i = .int .i64 k ∧ Hid (∀ q, q < n * 7 → ∃ u, wr.cell? ⟨w.heap.size, q, none⟩ = some u) ∧ Hid (∀ q, wr.frozen? ⟨w.heap.size, q, none⟩ = false) ∧ Hid (∀ i (hi : i < l.length), i < k → CrAt wr w.heap.size wr.heap.size true w.heap.size (i * 7) l[i]) ∧ Below w.heap.size w wr ∧ w.heap.size < wr.heap.size) (fun i _ => n - (intOf i).toNat)
  case atStart => exact ⟨0, by omega, rfl, HE, HF, hide (fun i hi h0 => absurd h0 (by omega)), hb1, hs1⟩
  case round =>
    clear HE HF hb1 hs1
    obtain ⟨k, hk, rfl, HE, HF, HC, hbr, hsr⟩ := hrel
    by_cases hlt : k < n
    · obtain ⟨b, off, Ai, ci, rfl, hb1, hb2, c0, c1, c2, c3, c4, c5, c6, hnm, hrd⟩ := H2.out.at_ (i := k) (by rw [H1.out]; exact hlt)
      have hkl : k < l.length := by rw [H1.out]; exact hlt
      replace c0 := (hbr.cell (p := ⟨b, _, none⟩) (by show b < _; omega)).trans c0
      replace c1 := (hbr.cell (p := ⟨b, _, none⟩) (by show b < _; omega)).trans c1
      replace c2 := (hbr.cell (p := ⟨b, _, none⟩) (by show b < _; omega)).trans c2
      replace c3 := (hbr.cell (p := ⟨b, _, none⟩) (by show b < _; omega)).trans c3
      replace c4 := (hbr.cell (p := ⟨b, _, none⟩) (by show b < _; omega)).trans c4
      replace c5 := (hbr.cell (p := ⟨b, _, none⟩) (by show b < _; omega)).trans c5
      replace c6 := (hbr.cell (p := ⟨b, _, none⟩) (by show b < _; omega)).trans c6
      have hcl := H3.out _ (List.getElem_mem hkl)
      have HRD := hide (hrd.below hbr hhi)
      clear hrd
      have HQ := hide (show ∀ (i : Nat) (hi : i < l.length) (hik : i = k), l[i] = l[k] from fun i hi e => by subst e; rfl)
      obtain ⟨cc, hcc⟩ : ∃ cc, l[k] = cc := ⟨_, rfl⟩
      have HCC := hide hcc
      rw [hcc] at c0 c1 c2 c3 c4 c5 c6 hnm hcl HRD
      clear hcc HQ
      obtain ⟨nm, x, y, h, j, b', ch⟩ := cc
      dsimp only at c0 c1 c2 c3 c4 c5 c6 hnm hcl HRD
      obtain ⟨ni, hni⟩ : ∃ ni, ch.length = ni := ⟨_, rfl⟩
      rw [hni] at c6 hnm hcl HRD
      have HNI := hide hni
      clear hni
      have hhr : hi ≤ wr.heap.size := by have := hbr.size; omega
      go_wp2_with fail
      refine (toCrane_any nm x y h j b' Ai ni ci lo hi ch hcl _ HNI.out HRD.out hhr).mono ?_
      rintro e w2 ⟨Aj, cj, rfl, ho, hb2'⟩
      have hs2 := hb2'.size
      have HO := hide ho
      clear ho
      have HE2 : Hid (∀ q, q < n * 7 → ∃ u, w2.cell? ⟨w.heap.size, q, none⟩ = some u) := hide (fun q hq => by obtain ⟨u, hu⟩ := HE.out q hq; exact ⟨u, (hb2'.cell (p := ⟨w.heap.size, q, none⟩) hsr).trans hu⟩)
      have HF2 : Hid (∀ q, w2.frozen? ⟨w.heap.size, q, none⟩ = false) := hide (fun q => (hb2'.frozen (p := ⟨w.heap.size, q, none⟩) hsr).trans (HF.out q))
      have HC2 : Hid (∀ i (hi : i < l.length), i < k → CrAt w2 w.heap.size w2.heap.size true w.heap.size (i * 7) l[i]) := hide (fun i hi h0 => ((HC.out i hi h0).keep (Nat.le_refl _) hsr (fun g _ hg => hb2'.block g hg)).mono (Nat.le_refl _) hs2)
      obtain ⟨u0, d0⟩ := HE2.out (k * 7) (by omega)
      obtain ⟨u1, d1⟩ := HE2.out (k * 7 + 1) (by omega)
      obtain ⟨u2, d2⟩ := HE2.out (k * 7 + 2) (by omega)
      obtain ⟨u3, d3⟩ := HE2.out (k * 7 + 3) (by omega)
      obtain ⟨u4, d4⟩ := HE2.out (k * 7 + 4) (by omega)
      obtain ⟨u5, d5⟩ := HE2.out (k * 7 + 5) (by omega)
      obtain ⟨u6, d6⟩ := HE2.out (k * 7 + 6) (by omega)
      have f0 := HF2.out (k * 7)
      have f1 := HF2.out (k * 7 + 1)
      have f2 := HF2.out (k * 7 + 2)
      have f3 := HF2.out (k * 7 + 3)
      have f4 := HF2.out (k * 7 + 4)
      have f5 := HF2.out (k * 7 + 5)
      have f6 := HF2.out (k * 7 + 6)
      clear HE HF HC c0 c1 c2 c3 c4 c5 c6
      go_wp2_with fail
      go_roundw
      case rel =>
        refine ⟨k + 1, by omega, by go_num, hide ?_, hide ?_, hide ?_, ?_, by simp [World.setCell]; omega⟩
        · intro q hq; exact set7_ex (HE2.out q hq)
        · intro q; exact set7_fz.trans (HF2.out q)
        · intro i hi h0
          rcases Nat.lt_or_ge i k with h1 | h1
          · exact (set7_cr (HC2.out i hi h1) (by omega)).mono (Nat.le_refl _) (by simp [World.setCell])
          · obtain rfl : i = k := by omega
            rw [HCC.out]
            obtain ⟨_, _, hv, _, _, hrd⟩ := HO.out.rd
            injection hv with e1 _ e3
            subst e1
            subst e3
            refine ⟨Aj, cj, ?_, by rw [HNI.out]; exact hnm, ?_, fun _ => ⟨fun q => set7_fz.trans (HF2.out q), fun a ha => ?_⟩⟩
            · have h7 := set7 (W := w2) (b := w.heap.size) (o := i * 7) (v0 := .string nm) (v1 := .int .i64 x) (v2 := .int .i64 y) (v3 := .int .i64 h) (v4 := .int .i64 j) (v5 := .int .i64 b') (v6 := .slice Aj ni cj) (fun j hj => HE2.out (i * 7 + j) (by omega))
              intro q v hv
              rw [show cCr _ _ = [.string nm, .int .i64 x, .int .i64 y, .int .i64 h, .int .i64 j, .int .i64 b', .slice Aj ni cj] from by rw [← HNI.out]; rfl] at hv
              exact h7 q v hv
            · show Rd _ _ _ 2 Aj ch.length (rChartStep ch)
              rw [HNI.out]
              refine Rd.mono (lo := wr.heap.size) (hi := w2.heap.size) (Rd.keep (w := w2) hrd (fun p p1 p2 => set7_far (by intro e; omega))) (by omega) (by simp [World.setCell])
            · rcases own_at HO.out a ha with hz | ⟨q1, q2⟩
              · exact .inl (HNI.out.trans hz)
              · exact .inr ⟨by omega, fun q => set7_fz.trans (q2 q)⟩
        · exact ((((((((hbr.trans (hb2'.mono hbr.size)).setCell (Nat.le_refl _) _).setCell (Nat.le_refl _) _).setCell (Nat.le_refl _) _).setCell (Nat.le_refl _) _).setCell (Nat.le_refl _) _).setCell (Nat.le_refl _) _).setCell (Nat.le_refl _) _)
      case measure => simp [intOf]; omega
    · obtain rfl : k = n := by omega
      have HRES : Hid (RdC wr w.heap.size wr.heap.size true (some ⟨w.heap.size, 0, none⟩) k l) := hide ⟨H1.out, fun _ => ⟨w.heap.size, 0, rfl, Nat.le_refl _, hsr, fun i hi => by rw [Nat.zero_add]; exact HC.out i hi (by rw [← H1.out]; exact hi)⟩⟩
      go_wp2
      go_ret
      exact ⟨_, rfl, HRES.out, hbr⟩

end Go.Proofs.YtajjophmngabbaaGreatDoor
