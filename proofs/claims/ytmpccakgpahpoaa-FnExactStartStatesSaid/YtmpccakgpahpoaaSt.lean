/-
  StartStates: the reference's and the program's. No condition but those that each theorem names.
-/
import Derived.Test.YtmpccakgpahpoaaSite
import Derived.Test.YtmpccakgpahpoaaFamCraneState
import Derived.Test.YtmpccakgpahpoaaFamInt64
import Derived.Test.YtmpccakgpahpoaaCr3
import Derived.Maps.AppendAt
import Derived.Deep.RegionHeld3
import Derived.OwnWalk
namespace Go.Proofs.Ytmpccakgpahpoaa
open Go.RowKit
set_option linter.unusedVariables false

def zss (n : Nat) : List (Int × Int × Int) := List.replicate n (0, 0, 0)
def ssL (l : List Crn) : List (Int × Int × Int) := if siteB l = true then zss l.length else []
def ssC (l : List Crn) : Int := if siteB l = true then 0 else 1
theorem ssL_len (l : List Crn) : (ssL l).length ≤ l.length := by
  unfold ssL; split <;> simp [zss]
theorem zss_sn (k : Nat) : rCraneState (zss (k + 1)) = rCraneState (zss k) ++ [.int .i64 0, .int .i64 0, .int .i64 0] := by
  unfold zss; rw [List.replicate_succ']; simp [rCraneState, rows, cCraneState]
theorem zss_made (n : Nat) (h1 : 1 ≤ n) (h6 : n ≤ 6) : (madeCells (Value.cells (.agg #[.int .i64 0, .int .i64 0, .int .i64 0])) (n * 3)).toList = rCraneState (zss n) := by
  have hz : Value.cells (.agg #[.int .i64 0, .int .i64 0, .int .i64 0]) = #[.int .i64 0, .int .i64 0, .int .i64 0] := by first | rfl | decide | kernel_rfl
  rw [hz]
  unfold madeCells
  match n, h1, h6 with
  | 1, _, _ => simp [Array.toList_range, List.range_succ, zss, rCraneState, rows, cCraneState, List.replicate]
  | 2, _, _ => simp [Array.toList_range, List.range_succ, zss, rCraneState, rows, cCraneState, List.replicate]
  | 3, _, _ => simp [Array.toList_range, List.range_succ, zss, rCraneState, rows, cCraneState, List.replicate]
  | 4, _, _ => simp [Array.toList_range, List.range_succ, zss, rCraneState, rows, cCraneState, List.replicate]
  | 5, _, _ => simp [Array.toList_range, List.range_succ, zss, rCraneState, rows, cCraneState, List.replicate]
  | 6, _, _ => simp [Array.toList_range, List.range_succ, zss, rCraneState, rows, cCraneState, List.replicate]
/-- A make among the operations of a region that draws its order. -/
theorem step_make_full {P : Program} (w : World) {ops : Array Oper} {o : Oper} {a : Act} {K : Act → World → Prop} {Q : Exit → Act → World → Prop} {E : Prop}
    (hg : o.guard = none) (l c : Operand) (t : TypeId) (hop : o.op = Op.makeSlice t l c)
    (e : TypeId) (i : TypeInfo) (z : Value) (size : Nat) (h1 : P.underlying t = some (.slice e)) (h2 : P.info? e = some i) (h3 : i.zero = some z) (h4 : i.size = size)
    (kl kc : IntKind) (L C : Int) (n : Nat) (hl : a.eval l = .int kl L) (hc : a.eval c = .int kc C) (hL : L = (n : Int)) (hC : C = (n : Int)) (b2 : i.bytes * n ≤ 281474976710656) (b3 : n ≤ maxLen) (H : Nat) (hH : w.heap.size = H)
    (hK : ∀ w', w'.ownsRow H e size (.slice (some ⟨H, 0, none⟩) n n) n (madeCells z.cells (n * size)).toList → w.grownBy w' none → K (a.put o.dst (.slice (some ⟨H, 0, none⟩) n n)) w') :
    if Region.wanted o (yielded ops a.tmps) = true then Oper.wp P o a w K Q else E := by
  subst hH
  have hw : Region.wanted o (yielded ops a.tmps) = true := by simp [Region.wanted, hg]
  rw [if_pos hw]
  obtain ⟨w', hrun, r1, r2⟩ := run_make_full (P := P) w w.heap.size t e i z size h1 h2 h3 h4 kl kc n b2 b3 (Nat.le_refl _)
  subst hL
  subst hC
  unfold Oper.wp
  simp [execOp, hop, hl, hc, hrun, Result.andThen]
  exact hK w' r1 r2
theorem retc_ {v : Value} {a b : Int} (h : b = a) : Ending.returned (.tuple #[v, .int .i64 a]) = .returned (.tuple #[v, .int .i64 b]) := by rw [h]
/-- Two slices do not share a block. -/
def Dj (v u : Value) : Prop := ∀ g, v.ownBlock = some g → u.ownBlock ≠ some g
theorem Dj.symm {v u : Value} (h : Dj v u) : Dj u v := fun g h1 h2 => h g h2 h1
section
variable {w w' : World} {base E S n k : Nat} {x x' y : Value} {xs ys : List Value}
theorem own_keep (h : w.ownsRow base E S y k ys) (o : Obj) (hg : (w.alloc o).grownBy w' x.ownBlock) (hd : Dj x y) : w'.ownsRow base E S y k ys := by
  have ha := h.alloc o
  refine ⟨ha.1, ?_⟩
  rcases ha.2 with h2 | ⟨g, cap, cur, rfl, hb, hh, r⟩
  · exact .inl h2
  · refine .inr ⟨g, cap, cur, rfl, hb, (hg.block g (Array.getElem?_eq_some_iff.1 hh).1 (fun e => ?_)).trans hh, r⟩
    exact hd g e.symm rfl
theorem dj_new (h : w.ownsRow base E S y k ys) (o : Obj) (hx : x'.ownBlock = x.ownBlock ∨ x'.ownBlock = some (w.alloc o).heap.size) (hd : Dj x y) : Dj x' y := by
  intro g h1 h2
  rcases hx with e | e
  · exact hd g (e ▸ h1) h2
  · have := (h.lt g h2).2
    rw [e] at h1
    simp at h1
    omega
theorem own_set (h : w.ownsRow base E S y k ys) {g : Nat} (hg : g < base) (j : Nat) (u : Value) : (w.setCell ⟨g, j, none⟩ u).ownsRow base E S y k ys := by
  refine ⟨h.1, ?_⟩
  rcases h.2 with h2 | ⟨q, cap, cur, rfl, hb, hh, r⟩
  · exact .inl h2
  · exact .inr ⟨q, cap, cur, rfl, hb, (Below.heap_setCell _ _ _ _ (by show q ≠ g; omega)).trans hh, r⟩
end
def ints0 (k : Nat) : List Value := List.replicate k (.int .i64 0)
theorem ints0_sn (k : Nat) : ints0 (k + 1) = ints0 k ++ [.int .i64 0] := List.replicate_succ'
/-- The four slices of a recorder under construction. -/
def O4 (w : World) (base ka kb kc kd : Nat) (a b c d : Value) : Prop :=
  (w.ownsRow base 115 3 a ka (rCraneState (zss ka)) ∧ w.ownsRow base 2 1 b kb (ints0 kb) ∧ w.ownsRow base 2 1 c kc (ints0 kc) ∧ w.ownsRow base 2 1 d kd (ints0 kd)) ∧ (Dj a b ∧ Dj a c ∧ Dj a d ∧ Dj b c ∧ Dj b d ∧ Dj c d)
theorem O4.start (w : World) (base : Nat) : O4 w base 0 0 0 0 (.slice none 0 0) (.slice none 0 0) (.slice none 0 0) (.slice none 0 0) :=
  ⟨⟨World.ownsRow_nil _ _ _ _, World.ownsRow_nil _ _ _ _, World.ownsRow_nil _ _ _ _, World.ownsRow_nil _ _ _ _⟩, (fun g e => by cases e), (fun g e => by cases e), (fun g e => by cases e), (fun g e => by cases e), (fun g e => by cases e), (fun g e => by cases e)⟩
theorem O4.a {w wn : World} {base ka kb kc kd : Nat} {a b c d v' : Value} (h : O4 w base ka kb kc kd a b c d) (o : Obj) (ho : wn.ownsRow base 115 3 v' (ka + 1) (rCraneState (zss ka) ++ [.int .i64 0, .int .i64 0, .int .i64 0])) (hgr : (w.alloc o).grownBy wn a.ownBlock) (hn : v'.ownBlock = a.ownBlock ∨ v'.ownBlock = some (w.alloc o).heap.size) {g : Nat} (hg : g < base) (j : Nat) (u : Value) : O4 (wn.setCell ⟨g, j, none⟩ u) base (ka + 1) kb kc kd v' b c d :=
  ⟨⟨own_set (by rw [zss_sn]; exact ho) hg _ _, own_set (own_keep h.1.2.1 _ hgr (h.2.1)) hg _ _, own_set (own_keep h.1.2.2.1 _ hgr (h.2.2.1)) hg _ _, own_set (own_keep h.1.2.2.2 _ hgr (h.2.2.2.1)) hg _ _⟩, ⟨dj_new h.1.2.1 _ hn (h.2.1), dj_new h.1.2.2.1 _ hn (h.2.2.1), dj_new h.1.2.2.2 _ hn (h.2.2.2.1), h.2.2.2.2.1, h.2.2.2.2.2.1, h.2.2.2.2.2.2⟩⟩
theorem O4.b {w wn : World} {base ka kb kc kd : Nat} {a b c d v' : Value} (h : O4 w base ka kb kc kd a b c d) (o : Obj) (ho : wn.ownsRow base 2 1 v' (kb + 1) (ints0 kb ++ [.int .i64 0])) (hgr : (w.alloc o).grownBy wn b.ownBlock) (hn : v'.ownBlock = b.ownBlock ∨ v'.ownBlock = some (w.alloc o).heap.size) {g : Nat} (hg : g < base) (j : Nat) (u : Value) : O4 (wn.setCell ⟨g, j, none⟩ u) base ka (kb + 1) kc kd a v' c d :=
  ⟨⟨own_set (own_keep h.1.1 _ hgr (h.2.1.symm)) hg _ _, own_set (by rw [ints0_sn]; exact ho) hg _ _, own_set (own_keep h.1.2.2.1 _ hgr (h.2.2.2.2.1)) hg _ _, own_set (own_keep h.1.2.2.2 _ hgr (h.2.2.2.2.2.1)) hg _ _⟩, ⟨(dj_new h.1.1 _ hn (h.2.1.symm)).symm, h.2.2.1, h.2.2.2.1, dj_new h.1.2.2.1 _ hn (h.2.2.2.2.1), dj_new h.1.2.2.2 _ hn (h.2.2.2.2.2.1), h.2.2.2.2.2.2⟩⟩
theorem O4.c {w wn : World} {base ka kb kc kd : Nat} {a b c d v' : Value} (h : O4 w base ka kb kc kd a b c d) (o : Obj) (ho : wn.ownsRow base 2 1 v' (kc + 1) (ints0 kc ++ [.int .i64 0])) (hgr : (w.alloc o).grownBy wn c.ownBlock) (hn : v'.ownBlock = c.ownBlock ∨ v'.ownBlock = some (w.alloc o).heap.size) {g : Nat} (hg : g < base) (j : Nat) (u : Value) : O4 (wn.setCell ⟨g, j, none⟩ u) base ka kb (kc + 1) kd a b v' d :=
  ⟨⟨own_set (own_keep h.1.1 _ hgr (h.2.2.1.symm)) hg _ _, own_set (own_keep h.1.2.1 _ hgr (h.2.2.2.2.1.symm)) hg _ _, own_set (by rw [ints0_sn]; exact ho) hg _ _, own_set (own_keep h.1.2.2.2 _ hgr (h.2.2.2.2.2.2)) hg _ _⟩, ⟨h.2.1, (dj_new h.1.1 _ hn (h.2.2.1.symm)).symm, h.2.2.2.1, (dj_new h.1.2.1 _ hn (h.2.2.2.2.1.symm)).symm, h.2.2.2.2.2.1, dj_new h.1.2.2.2 _ hn (h.2.2.2.2.2.2)⟩⟩
theorem O4.d {w wn : World} {base ka kb kc kd : Nat} {a b c d v' : Value} (h : O4 w base ka kb kc kd a b c d) (o : Obj) (ho : wn.ownsRow base 2 1 v' (kd + 1) (ints0 kd ++ [.int .i64 0])) (hgr : (w.alloc o).grownBy wn d.ownBlock) (hn : v'.ownBlock = d.ownBlock ∨ v'.ownBlock = some (w.alloc o).heap.size) {g : Nat} (hg : g < base) (j : Nat) (u : Value) : O4 (wn.setCell ⟨g, j, none⟩ u) base ka kb kc (kd + 1) a b c v' :=
  ⟨⟨own_set (own_keep h.1.1 _ hgr (h.2.2.2.1.symm)) hg _ _, own_set (own_keep h.1.2.1 _ hgr (h.2.2.2.2.2.1.symm)) hg _ _, own_set (own_keep h.1.2.2.1 _ hgr (h.2.2.2.2.2.2.symm)) hg _ _, own_set (by rw [ints0_sn]; exact ho) hg _ _⟩, ⟨h.2.1, h.2.2.1, (dj_new h.1.1 _ hn (h.2.2.2.1.symm)).symm, h.2.2.2.2.1, (dj_new h.1.2.1 _ hn (h.2.2.2.2.2.1.symm)).symm, (dj_new h.1.2.2.1 _ hn (h.2.2.2.2.2.2.symm)).symm⟩⟩
theorem cells1_at (w : World) (v : Value) (T : TypeId) (b : Nat) (hb : b = w.heap.size) : ∀ (j : Nat) (u : Value), [v][j]? = some u → (w.alloc (.cells #[v] T)).cell? ((⟨b, 0, none⟩ : Addr).add j) = some u := by
  subst hb
  intro j u hu
  rw [Go.WideShapes.add_plain, Nat.zero_add, new_cell]
  simpa using hu
theorem cells3_at (w : World) (v0 v1 v2 : Value) (T : TypeId) (b : Nat) (hb : b = w.heap.size) : ∀ (j : Nat) (u : Value), [v0, v1, v2][j]? = some u → (w.alloc (.cells #[v0, v1, v2] T)).cell? ((⟨b, 0, none⟩ : Addr).add j) = some u := by
  subst hb
  intro j u hu
  rw [Go.WideShapes.add_plain, Nat.zero_add, new_cell]
  simpa using hu

set_option maxRecDepth 100000 in
set_option maxHeartbeats 2000000 in
theorem l20New_any (bs os : Nat) (A : Option Addr) (n c : Nat) (hn : n ≤ 6) (w : World) (hbs : bs < w.heap.size) (hs : w.cell? ⟨bs, os, none⟩ = some (.slice A n c)) :
    Calls Try.prog 70 #[.pointer (some ⟨bs, os, none⟩)] w fun e w' => ∃ p v, e = .returned (.pointer (some ⟨p, 0, none⟩)) ∧ p < w'.heap.size ∧ w'.cell? ⟨p, 1, none⟩ = some v ∧ Own w' w.heap.size w'.heap.size 115 3 v n (rCraneState (zss n)) ∧ Below w.heap.size w w' := by
  obtain ⟨i0, hi0, hz0, hz1, hz2⟩ := info_parts infoInt64
  have I0H := hide (And.intro hi0 (And.intro hz0 (And.intro hz1 hz2)))
  clear hi0 hz0 hz1 hz2
  obtain ⟨j0, hi0, hz0, hz1, hz2⟩ := info_parts infoCraneState
  have J0H := hide (And.intro hi0 (And.intro hz0 (And.intro hz1 hz2)))
  clear hi0 hz0 hz1 hz2
  have HS := hide hs
  clear hs
  go_enter Try.func70, Try.ntmps70
  go_wp2_with fail
  obtain ⟨W0, hW0⟩ : ∃ W0 : World, w.alloc (.cells #[.pointer (some ⟨bs, os, none⟩), .slice none 0 0, .int .i64 0, .slice none 0 0, .slice none 0 0, .slice none 0 0] 106) = W0 := ⟨_, rfl⟩
  rw [hW0]
  have hb0 : Below w.heap.size w W0 := by rw [← hW0]; exact (Below.refl _ _).alloc (Nat.le_refl _) _
  have hz0 : W0.heap.size = w.heap.size + 1 := by rw [← hW0]; simp
  have hq0 : Box W0 w.heap.size [.pointer (some ⟨bs, os, none⟩), .slice none 0 0, .int .i64 0, .slice none 0 0, .slice none 0 0, .slice none 0 0] := by rw [← hW0]; exact box_new _ _ _
  have hf0 : Fz W0 w.heap.size := by rw [← hW0]; exact fz_at _ _ _ _ rfl
  clear hW0
  go_loopw [4] (fun ii wr => ∃ (k : Nat) (a b c d : Value), k ≤ n ∧ ii = .int .i64 k ∧ Hid (Box wr w.heap.size [.pointer (some ⟨bs, os, none⟩), a, .int .i64 0, b, c, d]) ∧ Hid (Fz wr w.heap.size) ∧ Hid (O4 wr (w.heap.size + 1) k k k k a b c d) ∧ Below w.heap.size w wr ∧ w.heap.size < wr.heap.size) (fun ii _ => n - (intOf ii).toNat)
  case atStart => exact ⟨0, _, _, _, _, by omega, rfl, hide hq0, hide hf0, hide (O4.start _ _), hb0, by omega⟩
  case round =>
    clear hq0 hf0 hb0 hz0
    obtain ⟨k, a0, b0, c0, d0, hk, rfl, HQ0, HF0, HO0, hbr, hsr⟩ := hrel
    have q0 := (hbr.cell (p := ⟨bs, os, none⟩) hbs).trans HS.out
    by_cases hlt : k < n
    · skip
      have l0_1 := HQ0.out 1 _ rfl
      have m0_1 := HF0.out 1
      have l0_3 := HQ0.out 3 _ rfl
      have m0_3 := HF0.out 3
      have l0_4 := HQ0.out 4 _ rfl
      have m0_4 := HF0.out 4
      have l0_5 := HQ0.out 5 _ rfl
      have m0_5 := HF0.out 5
      go_wp2_with (first | (at_builtin; refine wpList_append_own_at _ rfl (.tmp 21) (.tmp 23) 59 rfl (w.heap.size + 1) 115 j0 (.agg #[.int .i64 0, .int .i64 0, .int .i64 0]) 3 24 Try.underlying59 J0H.out.1 J0H.out.2.1 J0H.out.2.2.1 J0H.out.2.2.2 rfl (by decide) _ _ _ rfl (HO0.out.1.1.alloc _) ⟨wr.heap.size, 0, none⟩ 1 1 [.int .i64 0, .int .i64 0, .int .i64 0] rfl rfl (cells3_at _ _ _ _ _ _ rfl) (by simp [Value.oneCell']) (by unfold maxLen; omega) (by omega) (by simp; omega) ?_; intro v' n1 hown' hgrow _ hnew; obtain ⟨Aa, ca, rfl, _, _, _⟩ := (Own.of_owns hown').rd; have hgs := hgrow.size; have hbn : Below (w.heap.size + 1) wr n1 := ((Below.refl _ _).alloc (by first | omega | (simp [World.setCell]; omega)) _).grown hgrow (by first | (simp; omega) | (simp [World.setCell]; omega)) (fun g hg => (HO0.out.1.1.lt g hg).1); have hbm : Below w.heap.size wr n1 := hbn.mono (by omega); have hz1 : w.heap.size < n1.heap.size := (by have := hbm.size; first | omega | (simp [World.setCell] at this; omega)); have l1_1 := (HQ0.out.below hbn (by omega)) 1 _ rfl; have m1_1 := (HF0.out.below hbn (by omega)) 1; have l1_3 := (HQ0.out.below hbn (by omega)) 3 _ rfl; have m1_3 := (HF0.out.below hbn (by omega)) 3; have l1_4 := (HQ0.out.below hbn (by omega)) 4 _ rfl; have m1_4 := (HF0.out.below hbn (by omega)) 4; have l1_5 := (HQ0.out.below hbn (by omega)) 5 _ rfl; have m1_5 := (HF0.out.below hbn (by omega)) 5; have HQ1 : Hid (Box (World.setCell n1 ⟨w.heap.size, 1, none⟩ (.slice Aa (k + 1) ca)) w.heap.size [.pointer (some ⟨bs, os, none⟩), (.slice Aa (k + 1) ca), .int .i64 0, b0, c0, d0]) := hide ((HQ0.out.below hbn (by omega)).put 1 _ (by simp)); have HF1 : Hid (Fz (World.setCell n1 ⟨w.heap.size, 1, none⟩ (.slice Aa (k + 1) ca)) w.heap.size) := hide ((HF0.out.below hbn (by omega)).set _ _); have HO1 : Hid (O4 (World.setCell n1 ⟨w.heap.size, 1, none⟩ (.slice Aa (k + 1) ca)) (w.heap.size + 1) (k + 1) k k k (.slice Aa (k + 1) ca) b0 c0 d0) := hide (HO0.out.a _ hown' hgrow hnew (by omega) _ _); have hbr1 : Below w.heap.size w (World.setCell n1 ⟨w.heap.size, 1, none⟩ (.slice Aa (k + 1) ca)) := (hbr.trans hbm).setCell (Nat.le_refl _) _; clear hown' hgrow hnew hgs hbn hbm HQ0 HF0 HO0 q0 l0_1 m0_1 l0_3 m0_3 l0_4 m0_4 l0_5 m0_5) | (at_builtin; refine wpList_append_own_at _ rfl (.tmp 31) (.tmp 32) 65 rfl (w.heap.size + 1) 2 i0 (.int .i64 0) 1 8 Try.underlying65 I0H.out.1 I0H.out.2.1 I0H.out.2.2.1 I0H.out.2.2.2 rfl (by decide) _ _ _ rfl (HO1.out.1.2.1.alloc _) ⟨n1.heap.size, 0, none⟩ 1 1 [.int .i64 0] rfl rfl (cells1_at _ _ _ _ (by simp [World.setCell])) (by simp [Value.oneCell']) (by unfold maxLen; omega) (by omega) (by simp; omega) ?_; intro v' n2 hown' hgrow _ hnew; obtain ⟨Ab, cb, rfl, _, _, _⟩ := (Own.of_owns hown').rd; have hgs := hgrow.size; have hbn : Below (w.heap.size + 1) (World.setCell n1 ⟨w.heap.size, 1, none⟩ (.slice Aa (k + 1) ca)) n2 := ((Below.refl _ _).alloc (by first | omega | (simp [World.setCell]; omega)) _).grown hgrow (by first | (simp; omega) | (simp [World.setCell]; omega)) (fun g hg => (HO1.out.1.2.1.lt g hg).1); have hbm : Below w.heap.size (World.setCell n1 ⟨w.heap.size, 1, none⟩ (.slice Aa (k + 1) ca)) n2 := hbn.mono (by omega); have hz2 : w.heap.size < n2.heap.size := (by have := hbm.size; first | omega | (simp [World.setCell] at this; omega)); have l2_3 := (HQ1.out.below hbn (by omega)) 3 _ rfl; have m2_3 := (HF1.out.below hbn (by omega)) 3; have l2_4 := (HQ1.out.below hbn (by omega)) 4 _ rfl; have m2_4 := (HF1.out.below hbn (by omega)) 4; have l2_5 := (HQ1.out.below hbn (by omega)) 5 _ rfl; have m2_5 := (HF1.out.below hbn (by omega)) 5; have HQ2 : Hid (Box (World.setCell n2 ⟨w.heap.size, 3, none⟩ (.slice Ab (k + 1) cb)) w.heap.size [.pointer (some ⟨bs, os, none⟩), (.slice Aa (k + 1) ca), .int .i64 0, (.slice Ab (k + 1) cb), c0, d0]) := hide ((HQ1.out.below hbn (by omega)).put 3 _ (by simp)); have HF2 : Hid (Fz (World.setCell n2 ⟨w.heap.size, 3, none⟩ (.slice Ab (k + 1) cb)) w.heap.size) := hide ((HF1.out.below hbn (by omega)).set _ _); have HO2 : Hid (O4 (World.setCell n2 ⟨w.heap.size, 3, none⟩ (.slice Ab (k + 1) cb)) (w.heap.size + 1) (k + 1) (k + 1) k k (.slice Aa (k + 1) ca) (.slice Ab (k + 1) cb) c0 d0) := hide (HO1.out.b _ hown' hgrow hnew (by omega) _ _); have hbr2 : Below w.heap.size w (World.setCell n2 ⟨w.heap.size, 3, none⟩ (.slice Ab (k + 1) cb)) := (hbr1.trans hbm).setCell (Nat.le_refl _) _; clear hown' hgrow hnew hgs hbn hbm HQ1 HF1 HO1 l1_3 m1_3 l1_4 m1_4 l1_5 m1_5 l1_1 m1_1) | (at_builtin; refine wpList_append_own_at _ rfl (.tmp 40) (.tmp 41) 65 rfl (w.heap.size + 1) 2 i0 (.int .i64 0) 1 8 Try.underlying65 I0H.out.1 I0H.out.2.1 I0H.out.2.2.1 I0H.out.2.2.2 rfl (by decide) _ _ _ rfl (HO2.out.1.2.2.1.alloc _) ⟨n2.heap.size, 0, none⟩ 1 1 [.int .i64 0] rfl rfl (cells1_at _ _ _ _ (by simp [World.setCell])) (by simp [Value.oneCell']) (by unfold maxLen; omega) (by omega) (by simp; omega) ?_; intro v' n3 hown' hgrow _ hnew; obtain ⟨Ac, cc, rfl, _, _, _⟩ := (Own.of_owns hown').rd; have hgs := hgrow.size; have hbn : Below (w.heap.size + 1) (World.setCell n2 ⟨w.heap.size, 3, none⟩ (.slice Ab (k + 1) cb)) n3 := ((Below.refl _ _).alloc (by first | omega | (simp [World.setCell]; omega)) _).grown hgrow (by first | (simp; omega) | (simp [World.setCell]; omega)) (fun g hg => (HO2.out.1.2.2.1.lt g hg).1); have hbm : Below w.heap.size (World.setCell n2 ⟨w.heap.size, 3, none⟩ (.slice Ab (k + 1) cb)) n3 := hbn.mono (by omega); have hz3 : w.heap.size < n3.heap.size := (by have := hbm.size; first | omega | (simp [World.setCell] at this; omega)); have l3_4 := (HQ2.out.below hbn (by omega)) 4 _ rfl; have m3_4 := (HF2.out.below hbn (by omega)) 4; have l3_5 := (HQ2.out.below hbn (by omega)) 5 _ rfl; have m3_5 := (HF2.out.below hbn (by omega)) 5; have HQ3 : Hid (Box (World.setCell n3 ⟨w.heap.size, 4, none⟩ (.slice Ac (k + 1) cc)) w.heap.size [.pointer (some ⟨bs, os, none⟩), (.slice Aa (k + 1) ca), .int .i64 0, (.slice Ab (k + 1) cb), (.slice Ac (k + 1) cc), d0]) := hide ((HQ2.out.below hbn (by omega)).put 4 _ (by simp)); have HF3 : Hid (Fz (World.setCell n3 ⟨w.heap.size, 4, none⟩ (.slice Ac (k + 1) cc)) w.heap.size) := hide ((HF2.out.below hbn (by omega)).set _ _); have HO3 : Hid (O4 (World.setCell n3 ⟨w.heap.size, 4, none⟩ (.slice Ac (k + 1) cc)) (w.heap.size + 1) (k + 1) (k + 1) (k + 1) k (.slice Aa (k + 1) ca) (.slice Ab (k + 1) cb) (.slice Ac (k + 1) cc) d0) := hide (HO2.out.c _ hown' hgrow hnew (by omega) _ _); have hbr3 : Below w.heap.size w (World.setCell n3 ⟨w.heap.size, 4, none⟩ (.slice Ac (k + 1) cc)) := (hbr2.trans hbm).setCell (Nat.le_refl _) _; clear hown' hgrow hnew hgs hbn hbm HQ2 HF2 HO2 l2_4 m2_4 l2_5 m2_5 l2_3 m2_3) | (at_builtin; refine wpList_append_own_at _ rfl (.tmp 49) (.tmp 50) 65 rfl (w.heap.size + 1) 2 i0 (.int .i64 0) 1 8 Try.underlying65 I0H.out.1 I0H.out.2.1 I0H.out.2.2.1 I0H.out.2.2.2 rfl (by decide) _ _ _ rfl (HO3.out.1.2.2.2.alloc _) ⟨n3.heap.size, 0, none⟩ 1 1 [.int .i64 0] rfl rfl (cells1_at _ _ _ _ (by simp [World.setCell])) (by simp [Value.oneCell']) (by unfold maxLen; omega) (by omega) (by simp; omega) ?_; intro v' n4 hown' hgrow _ hnew; obtain ⟨Ad, cd, rfl, _, _, _⟩ := (Own.of_owns hown').rd; have hgs := hgrow.size; have hbn : Below (w.heap.size + 1) (World.setCell n3 ⟨w.heap.size, 4, none⟩ (.slice Ac (k + 1) cc)) n4 := ((Below.refl _ _).alloc (by first | omega | (simp [World.setCell]; omega)) _).grown hgrow (by first | (simp; omega) | (simp [World.setCell]; omega)) (fun g hg => (HO3.out.1.2.2.2.lt g hg).1); have hbm : Below w.heap.size (World.setCell n3 ⟨w.heap.size, 4, none⟩ (.slice Ac (k + 1) cc)) n4 := hbn.mono (by omega); have hz4 : w.heap.size < n4.heap.size := (by have := hbm.size; first | omega | (simp [World.setCell] at this; omega)); have l4_5 := (HQ3.out.below hbn (by omega)) 5 _ rfl; have m4_5 := (HF3.out.below hbn (by omega)) 5; have HQ4 : Hid (Box (World.setCell n4 ⟨w.heap.size, 5, none⟩ (.slice Ad (k + 1) cd)) w.heap.size [.pointer (some ⟨bs, os, none⟩), (.slice Aa (k + 1) ca), .int .i64 0, (.slice Ab (k + 1) cb), (.slice Ac (k + 1) cc), (.slice Ad (k + 1) cd)]) := hide ((HQ3.out.below hbn (by omega)).put 5 _ (by simp)); have HF4 : Hid (Fz (World.setCell n4 ⟨w.heap.size, 5, none⟩ (.slice Ad (k + 1) cd)) w.heap.size) := hide ((HF3.out.below hbn (by omega)).set _ _); have HO4 : Hid (O4 (World.setCell n4 ⟨w.heap.size, 5, none⟩ (.slice Ad (k + 1) cd)) (w.heap.size + 1) (k + 1) (k + 1) (k + 1) (k + 1) (.slice Aa (k + 1) ca) (.slice Ab (k + 1) cb) (.slice Ac (k + 1) cc) (.slice Ad (k + 1) cd)) := hide (HO3.out.d _ hown' hgrow hnew (by omega) _ _); have hbr4 : Below w.heap.size w (World.setCell n4 ⟨w.heap.size, 5, none⟩ (.slice Ad (k + 1) cd)) := (hbr3.trans hbm).setCell (Nat.le_refl _) _; clear hown' hgrow hnew hgs hbn hbm HQ3 HF3 HO3 l3_5 m3_5 l3_4 m3_4))
      go_roundw
      case rel => exact ⟨k + 1, _, _, _, _, by omega, by go_num, HQ4, HF4, HO4, hbr4, by simp [World.setCell]; omega⟩
      case measure => simp [intOf]; omega
    · obtain rfl : k = n := by omega
      have hl := HQ0.out 1 _ rfl
      go_wp2_with fail
      go_ret
      exact ⟨_, _, rfl, hsr, hl, (Own.of_owns HO0.out.1.1).mono (by omega) (Nat.le_refl _), hbr⟩

set_option maxRecDepth 100000 in
set_option maxHeartbeats 2000000 in
theorem newRec_any (A : Option Addr) (n c : Nat) (h1 : 1 ≤ n) (hn : n ≤ 6) (w : World) :
    Calls Try.prog 71 #[.agg #[.slice A n c]] w fun e w' => ∃ p v, e = .returned (.pointer (some ⟨p, 0, none⟩)) ∧ p < w'.heap.size ∧ w'.cell? ⟨p, 1, none⟩ = some v ∧ Own w' w.heap.size w'.heap.size 115 3 v n (rCraneState (zss n)) ∧ Below w.heap.size w w' := by
  obtain ⟨j0, hi0, hz0, hz1, hz2⟩ := info_parts infoCraneState
  have J0H := hide (And.intro hi0 (And.intro hz0 (And.intro hz1 hz2)))
  clear hi0 hz0 hz1 hz2
  go_enter Try.func71, Try.ntmps71
  go_wp2_with fail
  obtain ⟨W0, hW0⟩ : ∃ W0 : World, W0 = (w.alloc (.cells #[.slice A n c] 36)) := ⟨_, rfl⟩
  rw [← hW0]
  have ks : Box W0 (w.heap.size) [.slice A n c] := by rw [hW0]; exact box_at _ _ _ _ (by simp)
  have hB : Below w.heap.size w W0 := by rw [hW0]; exact (by repeat (first | exact Below.refl _ _ | refine Below.drew ?_ | refine Below.alloc ?_ (by first | (simp; done) | (simp; omega)) _))
  have hs0 : w.heap.size + 1 ≤ W0.heap.size := by rw [hW0]; first | (simp; done) | (simp; omega)
  clear hW0
  have HS : Hid ((World.drew W0).cell? ⟨w.heap.size, 0, none⟩ = some (.slice A n c)) := hide (ks 0 _ rfl)
  have hzs : Hid (w.heap.size < W0.heap.size) := hide (by omega)
  go_wp2_with fail
  obtain ⟨w1, hrun, hown, hg⟩ := run_make_full (P := Try.prog) (World.drew W0) W0.heap.size 59 115 j0 (.agg #[.int .i64 0, .int .i64 0, .int .i64 0]) 3 Try.underlying59 J0H.out.1 J0H.out.2.1 J0H.out.2.2.1 .i64 .i64 n (by rw [J0H.out.2.2.2]; omega) (by unfold maxLen; omega) (Nat.le_refl _)
  have hbx : Below W0.heap.size W0 w1 := ((Below.refl _ _).drew).grown hg (Nat.le_refl _) (by simp)
  have HS1 : Hid (w1.cell? ⟨w.heap.size, 0, none⟩ = some (.slice A n c)) := hide ((hbx.cell (p := ⟨w.heap.size, 0, none⟩) hzs.out).trans (ks 0 _ rfl))
  have HS2 : Hid (∀ o : Obj, (w1.alloc o).cell? ⟨w.heap.size, 0, none⟩ = some (.slice A n c)) := hide (fun o => (World.cell?_alloc_lt w1 o ⟨w.heap.size, 0, none⟩ (Nat.lt_of_lt_of_le hzs.out hbx.size)).trans HS1.out)
  have HO := hide hown
  clear hown hg
  go_region_held3 (fun W => W.cell? ⟨w.heap.size, 0, none⟩ = some (.slice A n c)) (first | (with_reducible exact HS.out) | (with_reducible exact HS1.out) | (with_reducible exact HS2.out _)) (fail)
  have hsz := hbx.size
  rw [zss_made n h1 hn] at HO
  have hB2 := (hB.trans (hbx.mono (by omega))).alloc (by omega) (.cells #[.slice A n c, .slice (some ⟨W0.heap.size, 0, none⟩) n n, .int .i64 0] 110)
  have HO2 := hide (Own.of_owns (HO.out.alloc (.cells #[.slice A n c, .slice (some ⟨W0.heap.size, 0, none⟩) n n, .int .i64 0] 110)))
  go_wp2_with fail
  go_ret
  exact ⟨_, _, rfl, by simp, new_cell _ _ _ 1, HO2.out.mono (by omega) (Nat.le_refl _), hB2⟩

set_option maxRecDepth 100000 in
set_option maxHeartbeats 2000000 in
theorem specStartStates_any (A : Option Addr) (n c lo hi : Nat) (own : Bool) (l : List Crn) (hn : n ≤ 1048576) (hch : ∀ p ∈ l, p.ch.length ≤ 1048576) (hnm : ∀ p ∈ l, p.nm.size ≤ maxLen) (w : World) (h : RdC w lo hi own A n l) (hhi : hi ≤ w.heap.size) :
    Calls Try.prog 33 #[.agg #[.slice A n c]] w fun e w' => ∃ v, e = .returned (.tuple #[v, .int .i64 (ssC l)]) ∧ Own w' w.heap.size w'.heap.size 115 3 v (ssL l).length (rCraneState (ssL l)) ∧ Below w.heap.size w w' := by
  have HCH := hide hch
  have HNM := hide hnm
  have HLEN := hide h.length
  clear hch hnm
  by_cases e1 : siteB l = true
  · skip
    have hl6 := (siteB_cr e1).2
    rw [HLEN.out] at hl6
    have E : Hid (siteB l = true ∧ ssL l = zss n ∧ ssC l = 0) := hide ⟨e1, by unfold ssL; rw [if_pos e1, HLEN.out], by simp [ssC, e1]⟩
    clear e1
    go_enter Try.func33, Try.ntmps33
    go_wp2_with fail
    obtain ⟨W0, hW0⟩ : ∃ W0 : World, W0 = (w.alloc (.cells #[.slice A n c] 36)) := ⟨_, rfl⟩
    rw [← hW0]
    have ks : Box W0 (w.heap.size) [.slice A n c] := by rw [hW0]; exact box_at _ _ _ _ (by simp)
    have hB : Below w.heap.size w W0 := by rw [hW0]; exact (by repeat (first | exact Below.refl _ _ | refine Below.drew ?_ | refine Below.alloc ?_ (by first | (simp; done) | (simp; omega)) _))
    have hs0 : w.heap.size + 1 ≤ W0.heap.size := by rw [hW0]; first | (simp; done) | (simp; omega)
    clear hW0
    replace h := h.below hB (by omega)
    have nks : w.heap.size < W0.heap.size := by omega
    have lks_0 := ks 0 _ rfl
    refine (l04Site_any w.heap.size 0 A n c lo hi own l hn HCH.out HNM.out _ (by omega) lks_0 h (by omega)).mono ?_
    rintro e w1 ⟨rfl, hb⟩
    have hbb : Below W0.heap.size W0 w1 := Below.trans (by repeat (first | exact Below.refl _ _ | refine Below.drew ?_ | refine Below.alloc ?_ (by first | (simp; done) | (simp; omega)) _)) (Below.mono hb (by simp))
    clear hb
    have hs1 := hbb.size
    replace h := h.below hbb (by omega)
    replace ks := ks.below hbb (by omega)
    replace hB := hB.trans (hbb.mono (by omega))
    clear hbb
    clear nks lks_0
    rw [E.out.1]
    have nks : w.heap.size < w1.heap.size := by omega
    have lks_0 := ks 0 _ rfl
    go_wp2_with fail
    refine (l20New_any w.heap.size 0 A n c (by omega) _ (by omega) lks_0).mono ?_
    rintro e w2 ⟨p, v, rfl, hpw, hpc, hown, hb⟩
    have hbb : Below w1.heap.size w1 w2 := Below.trans (by repeat (first | exact Below.refl _ _ | refine Below.drew ?_ | refine Below.alloc ?_ (by first | (simp; done) | (simp; omega)) _)) (Below.mono hb (by simp))
    clear hb
    have hs2 := hbb.size
    replace h := h.below hbb (by omega)
    replace ks := ks.below hbb (by omega)
    replace hB := hB.trans (hbb.mono (by omega))
    clear hbb
    have HO := hide hown
    clear hown
    go_wp2_with fail
    go_ret2
    exact ⟨_, retc_ E.out.2.2, by rw [E.out.2.1]; exact (by simpa [zss] using HO.out.mono (by omega) (Nat.le_refl _)), hB⟩
  · have e1 : siteB l = false := by simpa using e1
    have E : Hid (siteB l = false ∧ ssL l = [] ∧ ssC l = 1) := hide ⟨e1, by simp [ssL, e1], by simp [ssC, e1]⟩
    clear e1
    go_enter Try.func33, Try.ntmps33
    go_wp2_with fail
    obtain ⟨W0, hW0⟩ : ∃ W0 : World, W0 = (w.alloc (.cells #[.slice A n c] 36)) := ⟨_, rfl⟩
    rw [← hW0]
    have ks : Box W0 (w.heap.size) [.slice A n c] := by rw [hW0]; exact box_at _ _ _ _ (by simp)
    have hB : Below w.heap.size w W0 := by rw [hW0]; exact (by repeat (first | exact Below.refl _ _ | refine Below.drew ?_ | refine Below.alloc ?_ (by first | (simp; done) | (simp; omega)) _))
    have hs0 : w.heap.size + 1 ≤ W0.heap.size := by rw [hW0]; first | (simp; done) | (simp; omega)
    clear hW0
    replace h := h.below hB (by omega)
    have nks : w.heap.size < W0.heap.size := by omega
    have lks_0 := ks 0 _ rfl
    refine (l04Site_any w.heap.size 0 A n c lo hi own l hn HCH.out HNM.out _ (by omega) lks_0 h (by omega)).mono ?_
    rintro e w1 ⟨rfl, hb⟩
    have hbb : Below W0.heap.size W0 w1 := Below.trans (by repeat (first | exact Below.refl _ _ | refine Below.drew ?_ | refine Below.alloc ?_ (by first | (simp; done) | (simp; omega)) _)) (Below.mono hb (by simp))
    clear hb
    have hs1 := hbb.size
    replace h := h.below hbb (by omega)
    replace ks := ks.below hbb (by omega)
    replace hB := hB.trans (hbb.mono (by omega))
    clear hbb
    clear nks lks_0
    rw [E.out.1]
    go_wp2_with fail
    go_ret2
    exact ⟨_, retc_ E.out.2.2, by rw [E.out.2.1]; exact Own.of_owns (World.ownsRow_nil _ _ _ _), hB⟩

set_option maxRecDepth 100000 in
set_option maxHeartbeats 2000000 in
theorem implStartStates_any (A : Option Addr) (n c lo hi : Nat) (own : Bool) (l : List Crn) (hn : n ≤ 1048576) (hch : ∀ p ∈ l, p.ch.length ≤ 1048576) (hnm : ∀ p ∈ l, p.nm.size ≤ maxLen) (w : World) (h : RdC w lo hi own A n l) (hhi : hi ≤ w.heap.size) (hnc : n ≤ c) :
    Calls Try.prog 34 #[.agg #[.slice A n c]] w fun e w' => ∃ v, e = .returned (.tuple #[v, .int .i64 (ssC l)]) ∧ Own w' w.heap.size w'.heap.size 115 3 v (ssL l).length (rCraneState (ssL l)) ∧ Below w.heap.size w w' := by
  have HCH := hide hch
  have HNM := hide hnm
  have HLEN := hide h.length
  clear hch hnm
  by_cases e1 : siteB l = true
  · skip
    have hl6 := (siteB_cr e1).2
    rw [HLEN.out] at hl6
    have E : Hid (siteB l = true ∧ ssL l = zss n ∧ ssC l = 0) := hide ⟨e1, by unfold ssL; rw [if_pos e1, HLEN.out], by simp [ssC, e1]⟩
    clear e1
    go_enter Try.func34, Try.ntmps34
    go_wp2_with fail
    obtain ⟨W0, hW0⟩ : ∃ W0 : World, W0 = (w.alloc (.cells #[.slice A n c] 36)) := ⟨_, rfl⟩
    rw [← hW0]
    have ks : Box W0 (w.heap.size) [.slice A n c] := by rw [hW0]; exact box_at _ _ _ _ (by simp)
    have hB : Below w.heap.size w W0 := by rw [hW0]; exact (by repeat (first | exact Below.refl _ _ | refine Below.drew ?_ | refine Below.alloc ?_ (by first | (simp; done) | (simp; omega)) _))
    have hs0 : w.heap.size + 1 ≤ W0.heap.size := by rw [hW0]; first | (simp; done) | (simp; omega)
    clear hW0
    replace h := h.below hB (by omega)
    refine (implValidSite_any A n c lo hi own l hn HCH.out HNM.out _ h (by omega) hnc).mono ?_
    rintro e w1 ⟨rfl, hb⟩
    have hbb : Below W0.heap.size W0 w1 := Below.trans (by repeat (first | exact Below.refl _ _ | refine Below.drew ?_ | refine Below.alloc ?_ (by first | (simp; done) | (simp; omega)) _)) (Below.mono hb (by simp))
    clear hb
    have hs1 := hbb.size
    replace h := h.below hbb (by omega)
    replace ks := ks.below hbb (by omega)
    replace hB := hB.trans (hbb.mono (by omega))
    clear hbb
    rw [E.out.1]
    have nks : w.heap.size < w1.heap.size := by omega
    have lks_0 := ks 0 _ rfl
    go_wp2_with fail
    refine (newRec_any A n c (by omega) (by omega) _).mono ?_
    rintro e w2 ⟨p, v, rfl, hpw, hpc, hown, hb⟩
    have hbb : Below w1.heap.size w1 w2 := Below.trans (by repeat (first | exact Below.refl _ _ | refine Below.drew ?_ | refine Below.alloc ?_ (by first | (simp; done) | (simp; omega)) _)) (Below.mono hb (by simp))
    clear hb
    have hs2 := hbb.size
    replace h := h.below hbb (by omega)
    replace ks := ks.below hbb (by omega)
    replace hB := hB.trans (hbb.mono (by omega))
    clear hbb
    have HO := hide hown
    clear hown
    go_wp2_with fail
    go_ret2
    exact ⟨_, retc_ E.out.2.2, by rw [E.out.2.1]; exact (by simpa [zss] using HO.out.mono (by omega) (Nat.le_refl _)), hB⟩
  · have e1 : siteB l = false := by simpa using e1
    have E : Hid (siteB l = false ∧ ssL l = [] ∧ ssC l = 1) := hide ⟨e1, by simp [ssL, e1], by simp [ssC, e1]⟩
    clear e1
    go_enter Try.func34, Try.ntmps34
    go_wp2_with fail
    obtain ⟨W0, hW0⟩ : ∃ W0 : World, W0 = (w.alloc (.cells #[.slice A n c] 36)) := ⟨_, rfl⟩
    rw [← hW0]
    have ks : Box W0 (w.heap.size) [.slice A n c] := by rw [hW0]; exact box_at _ _ _ _ (by simp)
    have hB : Below w.heap.size w W0 := by rw [hW0]; exact (by repeat (first | exact Below.refl _ _ | refine Below.drew ?_ | refine Below.alloc ?_ (by first | (simp; done) | (simp; omega)) _))
    have hs0 : w.heap.size + 1 ≤ W0.heap.size := by rw [hW0]; first | (simp; done) | (simp; omega)
    clear hW0
    replace h := h.below hB (by omega)
    refine (implValidSite_any A n c lo hi own l hn HCH.out HNM.out _ h (by omega) hnc).mono ?_
    rintro e w1 ⟨rfl, hb⟩
    have hbb : Below W0.heap.size W0 w1 := Below.trans (by repeat (first | exact Below.refl _ _ | refine Below.drew ?_ | refine Below.alloc ?_ (by first | (simp; done) | (simp; omega)) _)) (Below.mono hb (by simp))
    clear hb
    have hs1 := hbb.size
    replace h := h.below hbb (by omega)
    replace ks := ks.below hbb (by omega)
    replace hB := hB.trans (hbb.mono (by omega))
    clear hbb
    rw [E.out.1]
    go_wp2_with fail
    go_ret2
    exact ⟨_, retc_ E.out.2.2, by rw [E.out.2.1]; exact Own.of_owns (World.ownsRow_nil _ _ _ _), hB⟩

end Go.Proofs.Ytmpccakgpahpoaa
