/-
  EVENTS IN A ROW OF THE CALL'S OWN: their cells, two of them exchanged; the comparison. No condition but those that each theorem names.
-/
import Derived.Test.YtdmhoabidlagmaaStb
import Derived.Test.YtdmhoabidlagmaaBox
import Derived.BigRegion
namespace Go.Proofs.Ytdmhoabidlagmaa
open Go.RowKit
set_option linter.unusedVariables false
set_option linter.unusedSimpArgs false

abbrev zE : Evt := (0, 0, 0, 0)
def vE (e : Evt) : Value := .agg #[.int .i64 e.1, .int .i64 e.2.1, .int .i64 e.2.2.1, .int .i64 e.2.2.2]
def cmpE (x y : Evt) : Int := if x.1 < y.1 then -1 else if y.1 < x.1 then 1 else 0
theorem cmpE_lt (x y : Evt) : decide (cmpE x y < 0) = decide (x.1 < y.1) := by
  unfold cmpE
  split
  · rename_i h; simp [h]
  · rename_i h
    split <;> simp [h]
def swp (L : List Evt) (i j : Nat) : List Evt := (L.set i (L.getD j zE)).set j (L.getD i zE)
theorem swp_len (L : List Evt) (i j : Nat) : (swp L i j).length = L.length := by simp [swp]
theorem swp_split (A B C : List Evt) (x y : Evt) : swp (A ++ x :: (B ++ y :: C)) A.length (A.length + 1 + B.length) = A ++ y :: (B ++ x :: C) := by
  have h1 : (A ++ x :: (B ++ y :: C)).getD (A.length + 1 + B.length) zE = y := by
    rw [List.getD_eq_getElem?_getD, List.getElem?_append_right (by omega), show A.length + 1 + B.length - A.length = B.length + 1 by omega, List.getElem?_cons_succ, List.getElem?_append_right (Nat.le_refl _), Nat.sub_self]
    rfl
  have h2 : (A ++ x :: (B ++ y :: C)).getD A.length zE = x := by
    rw [List.getD_eq_getElem?_getD, List.getElem?_append_right (Nat.le_refl _), Nat.sub_self]
    rfl
  unfold swp
  rw [h1, h2, List.set_append_right _ _ (Nat.le_refl _), Nat.sub_self, List.set_cons_zero, List.set_append_right _ _ (by omega), show A.length + 1 + B.length - A.length = B.length + 1 by omega, List.set_cons_succ, List.set_append_right _ _ (Nat.le_refl _), Nat.sub_self, List.set_cons_zero]
theorem rE_cons (x : Evt) (L : List Evt) : rEvent (x :: L) = .int .i64 x.1 :: .int .i64 x.2.1 :: .int .i64 x.2.2.1 :: .int .i64 x.2.2.2 :: rEvent L := by simp [rEvent, rows, cEvent]
theorem rE_set4 (a b c d : Int) : ∀ (L : List Evt) (i : Nat), i < L.length → ((((rEvent L).set (i * 4) (.int .i64 a)).set (i * 4 + 1) (.int .i64 b)).set (i * 4 + 2) (.int .i64 c)).set (i * 4 + 3) (.int .i64 d) = rEvent (L.set i (a, b, c, d)) := by
  intro L
  induction L with
  | nil => intro i h; simp at h
  | cons x L ih =>
    intro i h
    cases i with
    | zero => simp [rE_cons]
    | succ i =>
      have := ih i (by simpa using h)
      rw [rE_cons, List.set_cons_succ, rE_cons, ← this, show (i + 1) * 4 = i * 4 + 1 + 1 + 1 + 1 by omega]
      simp only [List.set_cons_succ]
theorem rE_app (L M : List Evt) : rEvent (L ++ M) = rEvent L ++ rEvent M := by simp [rEvent, rows]

section
variable {W W' W'' : World} {row : Option Nat}
theorem gb_refl (W : World) (row : Option Nat) : W.grownBy W row := ⟨rfl, rfl, rfl, Nat.le_refl _, fun _ _ _ => rfl⟩
theorem gb_trans (h : W.grownBy W' row) (k : W'.grownBy W'' row) : W.grownBy W'' row :=
  ⟨k.os.trans h.os, k.tape.trans h.tape, k.output.trans h.output, Nat.le_trans h.size k.size, fun i hi hn => (k.block i (Nat.lt_of_lt_of_le hi h.size) hn).trans (h.block i hi hn)⟩
theorem gb_below (h : Below W.heap.size W W') (row : Option Nat) : W.grownBy W' row := ⟨h.os, h.tape, h.output, h.size, fun i hi _ => h.block i hi⟩
theorem gb_drew (h : W.grownBy W' row) : W.grownBy W'.drew row := ⟨h.os, h.tape, h.output, h.size, h.block⟩
theorem gb_set (h : W.grownBy W' row) {g : Nat} (hg : row = some g) (j : Nat) (u : Value) : W.grownBy (W'.setCell ⟨g, j, none⟩ u) row :=
  gb_trans h ⟨rfl, rfl, rfl, by simp [World.setCell], fun k _ hn => Below.heap_setCell _ _ _ _ (by intro e; apply hn; rw [hg, show k = g from e])⟩
end
/-- The four cells of an event. -/
theorem se_cells {W : World} {lo n g c : Nat} {L : List Evt} (h : W.ownsRow lo 33 4 (.slice (some ⟨g, 0, none⟩) n c) n (rEvent L)) {i : Nat} (hi : i < n) {x0 x1 x2 x3 : Int} (hx : L.getD i zE = (x0, x1, x2, x3)) :
    W.cell? ⟨g, i * 4, none⟩ = some (.int .i64 x0) ∧ W.cell? ⟨g, i * 4 + 1, none⟩ = some (.int .i64 x1) ∧ W.cell? ⟨g, i * 4 + 2, none⟩ = some (.int .i64 x2) ∧ W.cell? ⟨g, i * 4 + 3, none⟩ = some (.int .i64 x3) := by
  have hl : L.length = n := by have := h.1; rw [rEvent_length] at this; omega
  have hi' : i < L.length := by omega
  rw [show L.getD i zE = L[i] by simp [List.getD, hi']] at hx
  obtain ⟨t0, t1, t2, t3⟩ := rEvent_at L i hi'
  rw [hx] at t0 t1 t2 t3
  exact ⟨(h.cellAt _ (by omega)).trans t0, (h.cellAt _ (by omega)).trans t1, (h.cellAt _ (by omega)).trans t2, (h.cellAt _ (by omega)).trans t3⟩
/-- Two events are exchanged: the one at i is written first. -/
theorem se_swap {W : World} {lo n g c : Nat} {L : List Evt} (h : W.ownsRow lo 33 4 (.slice (some ⟨g, 0, none⟩) n c) n (rEvent L)) {i j : Nat} (hi : i < n) (hj : j < n) {x0 x1 x2 x3 y0 y1 y2 y3 : Int} (hx : L.getD i zE = (x0, x1, x2, x3)) (hy : L.getD j zE = (y0, y1, y2, y3)) {V : World}
    (hV : (((((((W.setCell ⟨g, i * 4, none⟩ (.int .i64 y0)).setCell ⟨g, i * 4 + 1, none⟩ (.int .i64 y1)).setCell ⟨g, i * 4 + 2, none⟩ (.int .i64 y2)).setCell ⟨g, i * 4 + 3, none⟩ (.int .i64 y3)).setCell ⟨g, j * 4, none⟩ (.int .i64 x0)).setCell ⟨g, j * 4 + 1, none⟩ (.int .i64 x1)).setCell ⟨g, j * 4 + 2, none⟩ (.int .i64 x2)).setCell ⟨g, j * 4 + 3, none⟩ (.int .i64 x3) = V) :
    V.ownsRow lo 33 4 (.slice (some ⟨g, 0, none⟩) n c) n (rEvent (swp L i j)) ∧ W.grownBy V (some g) := by
  subst hV
  have hl : L.length = n := by have := h.1; rw [rEvent_length] at this; omega
  have s1 := ((((h.stored (i * 4) (.int .i64 y0)).1.stored (i * 4 + 1) (.int .i64 y1)).1.stored (i * 4 + 2) (.int .i64 y2)).1.stored (i * 4 + 3) (.int .i64 y3)).1
  rw [rE_set4 _ _ _ _ L i (by omega)] at s1
  have s2 := ((((s1.stored (j * 4) (.int .i64 x0)).1.stored (j * 4 + 1) (.int .i64 x1)).1.stored (j * 4 + 2) (.int .i64 x2)).1.stored (j * 4 + 3) (.int .i64 x3)).1
  rw [rE_set4 _ _ _ _ _ j (by simp; omega)] at s2
  refine ⟨?_, ?_⟩
  · unfold swp
    rw [hx, hy]
    exact s2
  · exact gb_set (gb_set (gb_set (gb_set (gb_set (gb_set (gb_set (gb_set (gb_refl _ _) rfl _ _) rfl _ _) rfl _ _) rfl _ _) rfl _ _) rfl _ _) rfl _ _) rfl _ _

set_option maxHeartbeats 1000000 in
theorem compareEvents_any (x y : Evt) (w : World) : Calls Try.prog 16 #[vE x, vE y] w fun e w' => e = .returned (.int .i64 (cmpE x y)) ∧ Below w.heap.size w w' := by
  obtain ⟨x0, x1, x2, x3⟩ := x
  obtain ⟨y0, y1, y2, y3⟩ := y
  unfold vE cmpE
  simp only
  by_cases h1 : x0 < y0
  · rw [if_pos h1]
    go_enter Try.func16, Try.ntmps16
    go_wp2_with fail
    go_ret
    exact ⟨rfl, Below.alloc ((Below.refl _ _).alloc (Nat.le_refl _) _) (by simp) _⟩
  · by_cases h2 : y0 < x0
    · rw [if_neg h1, if_pos h2]
      go_enter Try.func16, Try.ntmps16
      go_wp2_with fail
      go_ret
      exact ⟨rfl, Below.alloc ((Below.refl _ _).alloc (Nat.le_refl _) _) (by simp) _⟩
    · rw [if_neg h1, if_neg h2]
      go_enter Try.func16, Try.ntmps16
      go_wp2_with fail
      go_ret
      exact ⟨rfl, Below.alloc ((Below.refl _ _).alloc (Nat.le_refl _) _) (by simp) _⟩

theorem swr_step (X p Z q Y : List Evt) (a b m k : Nat) (ha : X.length = a) (hp : p.length = m) (hq : q.length = m) (hb : a + m + Z.length = b) (hk : k < m) :
    swp (X ++ ((q.take k ++ p.drop k) ++ (Z ++ ((p.take k ++ q.drop k) ++ Y)))) (a + k) (b + k) = X ++ ((q.take (k + 1) ++ p.drop (k + 1)) ++ (Z ++ ((p.take (k + 1) ++ q.drop (k + 1)) ++ Y))) := by
  have ep : p.drop k = p[k] :: p.drop (k + 1) := List.drop_eq_getElem_cons (by omega)
  have eq : q.drop k = q[k] :: q.drop (k + 1) := List.drop_eq_getElem_cons (by omega)
  have e1 : X ++ ((q.take k ++ p.drop k) ++ (Z ++ ((p.take k ++ q.drop k) ++ Y))) = (X ++ q.take k) ++ p[k] :: ((p.drop (k + 1) ++ (Z ++ p.take k)) ++ q[k] :: (q.drop (k + 1) ++ Y)) := by
    rw [ep, eq]; simp only [List.append_assoc, List.cons_append]
  have e2 : X ++ ((q.take (k + 1) ++ p.drop (k + 1)) ++ (Z ++ ((p.take (k + 1) ++ q.drop (k + 1)) ++ Y))) = (X ++ q.take k) ++ q[k] :: ((p.drop (k + 1) ++ (Z ++ p.take k)) ++ p[k] :: (q.drop (k + 1) ++ Y)) := by
    rw [List.take_succ_eq_append_getElem (show k < q.length by omega), List.take_succ_eq_append_getElem (show k < p.length by omega)]; simp only [List.append_assoc, List.cons_append, List.nil_append]
  have l1 : (X ++ q.take k).length = a + k := by simp; omega
  have l2 : a + k + 1 + (p.drop (k + 1) ++ (Z ++ p.take k)).length = b + k := by simp; omega
  have := swp_split (X ++ q.take k) (p.drop (k + 1) ++ (Z ++ p.take k)) (q.drop (k + 1) ++ Y) p[k] q[k]
  rw [l1, l2] at this
  rw [e1, e2, this]

set_option maxRecDepth 100000 in
set_option maxHeartbeats 2000000 in
theorem swapRange_any (g n c lo : Nat) (fv : Value) (X p Z q Y : List Evt) (a b m : Nat) (ha : X.length = a) (hp : p.length = m) (hq : q.length = m) (hb : a + m + Z.length = b) (hn : n ≤ 4096) (w : World) (h : w.ownsRow lo 33 4 (.slice (some ⟨g, 0, none⟩) n c) n (rEvent (X ++ (p ++ (Z ++ (q ++ Y)))))) :
    Calls Try.prog 24 #[.slice (some ⟨g, 0, none⟩) n c, .int .i64 a, .int .i64 b, .int .i64 m, fv] w fun e w' => e = .returned (.tuple #[]) ∧ w'.ownsRow lo 33 4 (.slice (some ⟨g, 0, none⟩) n c) n (rEvent (X ++ (q ++ (Z ++ (p ++ Y))))) ∧ w.grownBy w' (some g) := by
  have HL : Hid ((X ++ (p ++ (Z ++ (q ++ Y)))).length = n) := hide (by have := h.1; rw [rEvent_length] at this; omega)
  have hbn : b + m ≤ n := by have := HL.out; simp at this; omega
  have hab : a + m ≤ b := by omega
  have H := hide h
  have HA := hide (And.intro ha (And.intro hp (And.intro hq hb)))
  clear h ha hp hq hb
  obtain ⟨fq, hfq⟩ : ∃ fq : Nat → List Evt, fq = fun i => X ++ ((q.take i ++ p.drop i) ++ (Z ++ ((p.take i ++ q.drop i) ++ Y))) := ⟨_, rfl⟩
  have HF := hide hfq
  clear hfq
  go_enter Try.func24, Try.ntmps24
  go_wp2_with fail
  go_loopw [10] (fun i wr => ∃ k : Nat, k ≤ m ∧ i = .int .i64 (k : Int) ∧ Hid (wr.ownsRow lo 33 4 (.slice (some ⟨g, 0, none⟩) n c) n (rEvent (fq k))) ∧ Hid (w.grownBy wr (some g))) (fun i _ => m - (intOf i).toNat)
  case atStart => exact ⟨0, by omega, rfl, hide (by rw [HF.out]; simpa using H.out), hide (gb_refl _ _)⟩
  case round =>
    obtain ⟨k, hk, rfl, HO, HG⟩ := hrel
    by_cases hkm : k < m
    · obtain ⟨⟨x0, x1, x2, x3⟩, hx⟩ : ∃ t, (fq k).getD (a + k) zE = t := ⟨_, rfl⟩
      obtain ⟨⟨y0, y1, y2, y3⟩, hy⟩ : ∃ t, (fq k).getD (b + k) zE = t := ⟨_, rfl⟩
      obtain ⟨c0, c1, c2, c3⟩ := se_cells HO.out (by omega) hx
      obtain ⟨d0, d1, d2, d3⟩ := se_cells HO.out (by omega) hy
      have fz := fun j => HO.out.frozenAt j
      have HX := hide hx
      have HY := hide hy
      clear hx hy
      have z1 : (k : Int) < (m : Int) := by omega
      go_wp2_with fail
      go_region
      have hst := swr_step X p Z q Y a b m k HA.out.1 HA.out.2.1 HA.out.2.2.1 HA.out.2.2.2 hkm
      obtain ⟨V, hV⟩ : ∃ V, (((((((wr.setCell ⟨g, (a + k) * 4, none⟩ (.int .i64 y0)).setCell ⟨g, (a + k) * 4 + 1, none⟩ (.int .i64 y1)).setCell ⟨g, (a + k) * 4 + 2, none⟩ (.int .i64 y2)).setCell ⟨g, (a + k) * 4 + 3, none⟩ (.int .i64 y3)).setCell ⟨g, (b + k) * 4, none⟩ (.int .i64 x0)).setCell ⟨g, (b + k) * 4 + 1, none⟩ (.int .i64 x1)).setCell ⟨g, (b + k) * 4 + 2, none⟩ (.int .i64 x2)).setCell ⟨g, (b + k) * 4 + 3, none⟩ (.int .i64 x3) = V := ⟨_, rfl⟩
      obtain ⟨hs, hg⟩ := se_swap HO.out (by omega) (by omega) HX.out HY.out hV
      rw [hV]
      have HS := hide (show (World.drew V).ownsRow lo 33 4 (.slice (some ⟨g, 0, none⟩) n c) n (rEvent (fq (k + 1))) by rw [HF.out] at hs ⊢; simp only at hs ⊢; rw [hst] at hs; exact hs)
      have HG2 := hide (gb_drew (gb_trans HG.out hg))
      clear hs hg hV hst c0 c1 c2 c3 d0 d1 d2 d3 fz
      generalize World.drew V = WV at *
      go_wp2_with fail
      go_roundw
      case rel => exact ⟨k + 1, by omega, by go_num, HS, HG2⟩
      case measure => simp [intOf]; omega
    · obtain rfl : k = m := by omega
      have HS := hide (show wr.ownsRow lo 33 4 (.slice (some ⟨g, 0, none⟩) n c) n (rEvent (X ++ (q ++ (Z ++ (p ++ Y))))) by
        have hs := HO.out
        rw [HF.out] at hs
        simp only at hs
        rw [List.take_of_length_le (by rw [HA.out.2.2.1]; exact Nat.le_refl _), List.take_of_length_le (by rw [HA.out.2.1]; exact Nat.le_refl _), List.drop_of_length_le (by rw [HA.out.2.1]; exact Nat.le_refl _), List.drop_of_length_le (by rw [HA.out.2.2.1]; exact Nat.le_refl _), List.append_nil, List.append_nil] at hs
        exact hs)
      go_wp2_with fail
      go_end0
      exact ⟨rfl, HS.out, HG.out⟩
theorem swapRange_at (g n c lo : Nat) (fv : Value) (X p Z q Y : List Evt) (a b m : Nat) (ha : X.length = a) (hp : p.length = m) (hq : q.length = m) (hb : a + m + Z.length = b) (hn : n ≤ 4096) (xa xb xm : Int) (ea : xa = a) (eb : xb = b) (em : xm = m) (w : World) (h : w.ownsRow lo 33 4 (.slice (some ⟨g, 0, none⟩) n c) n (rEvent (X ++ (p ++ (Z ++ (q ++ Y)))))) :
    Calls Try.prog 24 #[.slice (some ⟨g, 0, none⟩) n c, .int .i64 xa, .int .i64 xb, .int .i64 xm, fv] w fun e w' => e = .returned (.tuple #[]) ∧ w'.ownsRow lo 33 4 (.slice (some ⟨g, 0, none⟩) n c) n (rEvent (X ++ (q ++ (Z ++ (p ++ Y))))) ∧ w.grownBy w' (some g) := by
  subst ea eb em
  exact swapRange_any g n c lo fv X p Z q Y a b m ha hp hq hb hn w h
end Go.Proofs.Ytdmhoabidlagmaa
