/-
  WORDS FOR MEMORY, over any program: a slice that reads as a list of cells and lies in a range of blocks; rows that the call owns; steps that touch a range of blocks alone. No condition.
-/
import Derived.Test.YtajjophmngabbaaGreatDoorFrame
import Derived.Below
import Derived.Laws.OwnMore
import Derived.Deep.Draws
import Derived.Deep.AppendLies
import Derived.OwnWalk
import Derived.Lib.SmallJoins
import Derived.WalkKit
import Derived.WalkSpells
import Derived.WalkLawsBesides
import Derived.StillTailTactics
import Derived.BigQuiet
import Derived.Deep.QuietTactic
namespace Go.Proofs.YtajjophmngabbaaGreatDoor
open Go.RowKit

/-- The slice '.slice A n c' holds the cells xs (size of them an element) and lies in a block from lo on, below hi. -/
def Rd (w : World) (lo hi size : Nat) (A : Option Addr) (n : Nat) (xs : List Value) : Prop :=
  xs.length = n * size ∧ (0 < n → ∃ b off, A = some ⟨b, off, none⟩ ∧ lo ≤ b ∧ b < hi ∧ ∀ j u, xs[j]? = some u → w.cell? ⟨b, off + j, none⟩ = some u)

/-- Only blocks from lo on and below hi, and new ones, have turned. -/
structure Tch (lo hi : Nat) (w w' : World) : Prop where
  os : w'.os = w.os
  tape : w'.tape = w.tape
  output : w'.output = w.output
  size : w.heap.size ≤ w'.heap.size
  block : ∀ k, k < w.heap.size → (k < lo ∨ hi ≤ k) → w'.heap[k]? = w.heap[k]?

/-- A row of the call's own that lies in a block below hi. -/
def Own (w : World) (lo hi : Nat) (e : TypeId) (size : Nat) (v : Value) (n : Nat) (xs : List Value) : Prop :=
  w.ownsRow lo e size v n xs ∧ ∀ g, v.ownBlock = some g → g < hi

section
variable {w w' w'' : World} {lo hi lo' hi' size n : Nat} {A : Option Addr} {xs : List Value} {e : TypeId} {v : Value}

theorem Tch.refl (lo hi : Nat) (w : World) : Tch lo hi w w := ⟨rfl, rfl, rfl, Nat.le_refl _, fun _ _ _ => rfl⟩
theorem Tch.trans (h : Tch lo hi w w') (k : Tch lo hi w' w'') : Tch lo hi w w'' :=
  ⟨k.os.trans h.os, k.tape.trans h.tape, k.output.trans h.output, Nat.le_trans h.size k.size, fun i hi hb => (k.block i (Nat.lt_of_lt_of_le hi h.size) hb).trans (h.block i hi hb)⟩
theorem Tch.mono (h : Tch lo hi w w') (h1 : lo' ≤ lo) (h2 : hi ≤ hi') : Tch lo' hi' w w' :=
  ⟨h.os, h.tape, h.output, h.size, fun i hi hb => h.block i hi (by omega)⟩
theorem Tch.below (h : Tch lo hi w w') (hB : lo ≤ w.heap.size) : Below lo w w' := ⟨h.os, h.tape, h.output, h.size, fun i hi => h.block i (by omega) (.inl hi)⟩
theorem Tch.of_below (h : Below w.heap.size w w') (lo hi : Nat) : Tch lo hi w w' := ⟨h.os, h.tape, h.output, h.size, fun i hi _ => h.block i hi⟩
theorem Tch.of_grown {g : Nat} (h : w.grownBy w' (some g)) (h1 : lo ≤ g) (h2 : g < hi) : Tch lo hi w w' :=
  ⟨h.os, h.tape, h.output, h.size, fun i hi hb => h.block i hi (fun e => by injection e with e; omega)⟩
theorem Tch.cell (h : Tch lo hi w w') {p : Addr} (hp : p.block < w.heap.size) (hb : p.block < lo ∨ hi ≤ p.block) : w'.cell? p = w.cell? p := World.cell?_of_block (h.block p.block hp hb)

theorem Rd.nil (w : World) (lo hi size : Nat) (A : Option Addr) : Rd w lo hi size A 0 [] := ⟨by simp, fun h => absurd h (by omega)⟩
theorem Rd.length (h : Rd w lo hi size A n xs) : xs.length = n * size := h.1
theorem Rd.length1 (h : Rd w lo hi 1 A n xs) : xs.length = n := by simpa using h.1
theorem Rd.keep (h : Rd w lo hi size A n xs) (hk : ∀ p : Addr, lo ≤ p.block → p.block < hi → w'.cell? p = w.cell? p) : Rd w' lo hi size A n xs :=
  ⟨h.1, fun hn => by
    obtain ⟨b, off, hA, h1, h2, hc⟩ := h.2 hn
    exact ⟨b, off, hA, h1, h2, fun j u hu => (hk _ h1 h2).trans (hc j u hu)⟩⟩
theorem Rd.mono (h : Rd w lo hi size A n xs) (h1 : lo' ≤ lo) (h2 : hi ≤ hi') : Rd w lo' hi' size A n xs :=
  ⟨h.1, fun hn => by
    obtain ⟨b, off, hA, k1, k2, hc⟩ := h.2 hn
    exact ⟨b, off, hA, by omega, by omega, hc⟩⟩
theorem Rd.below {B : Nat} (h : Rd w lo hi size A n xs) (hb : Below B w w') (hB : hi ≤ B) : Rd w' lo hi size A n xs := h.keep fun _ _ hp => hb.cell (by omega)
theorem Rd.tch {l k : Nat} (h : Rd w lo hi size A n xs) (hb : Tch l k w w') (hw : hi ≤ w.heap.size) (hd : hi ≤ l ∨ k ≤ lo) : Rd w' lo hi size A n xs := h.keep fun _ h1 h2 => hb.cell (by omega) (by omega)
theorem Rd.drew (h : Rd w lo hi size A n xs) : Rd w.drew lo hi size A n xs := h
theorem Rd.drewN (h : Rd w lo hi size A n xs) (k : Nat) : Rd (w.drewN k) lo hi size A n xs := h
theorem Rd.alloc (h : Rd w lo hi size A n xs) (hB : hi ≤ w.heap.size) (o : Obj) : Rd (w.alloc o) lo hi size A n xs := h.keep fun p _ hp => World.cell?_alloc_lt w o p (by omega)
theorem Rd.at_ {k : Nat} (h : Rd w lo hi 1 A n xs) (hk : k < n) : ∃ b off u, A = some ⟨b, off, none⟩ ∧ lo ≤ b ∧ b < hi ∧ xs[k]? = some u ∧ w.cell? ⟨b, off + k, none⟩ = some u := by
  obtain ⟨b, off, hA, h1, h2, hc⟩ := h.2 (by omega)
  have hl : k < xs.length := by have := h.length1; omega
  exact ⟨b, off, xs[k], hA, h1, h2, List.getElem?_eq_getElem hl, hc k _ (List.getElem?_eq_getElem hl)⟩

theorem Own.rd (h : Own w lo hi e size v n xs) : ∃ A c, v = .slice A n c ∧ n ≤ c ∧ c ≤ maxLen ∧ Rd w lo hi size A n xs := by
  obtain ⟨⟨h1, h2⟩, h3⟩ := h
  rcases h2 with ⟨rfl, rfl⟩ | ⟨g, cap, cur, rfl, hb, hg, hnc, hm, hs, ht⟩
  · exact ⟨none, 0, rfl, Nat.le_refl _, Nat.zero_le _, h1, fun h => absurd h (by omega)⟩
  · refine ⟨_, cap, rfl, hnc, hm, h1, fun _ => ⟨g, 0, rfl, hb, h3 g (by simp [Value.ownBlock]), fun j u hu => ?_⟩⟩
    rw [Nat.zero_add, cell_of_row w g j cur e (0, 0) hg]
    rw [← ht, List.getElem?_take] at hu
    split at hu
    · simpa using hu
    · cases hu
theorem Own.length (h : Own w lo hi e size v n xs) : xs.length = n * size := h.1.1
theorem Own.mono (h : Own w lo hi e size v n xs) (h1 : lo' ≤ lo) (h2 : hi ≤ hi') : Own w lo' hi' e size v n xs :=
  ⟨⟨h.1.1, h.1.2.elim Or.inl (fun ⟨g, cap, cur, hv, hg, r⟩ => Or.inr ⟨g, cap, cur, hv, Nat.le_trans h1 hg, r⟩)⟩, fun g hg => Nat.lt_of_lt_of_le (h.2 g hg) h2⟩
theorem Own.of_block (h : Own w lo hi e size v n xs) (hk : ∀ g, v.ownBlock = some g → w'.heap[g]? = w.heap[g]?) : Own w' lo hi e size v n xs := by
  obtain ⟨⟨h1, h2⟩, h3⟩ := h
  refine ⟨⟨h1, ?_⟩, h3⟩
  rcases h2 with h2 | ⟨g, cap, cur, rfl, hb, hg, r⟩
  · exact .inl h2
  · exact .inr ⟨g, cap, cur, rfl, hb, (hk g (by simp [Value.ownBlock])).trans hg, r⟩
theorem Own.lt (h : Own w lo hi e size v n xs) : ∀ g, v.ownBlock = some g → lo ≤ g ∧ g < hi ∧ g < w.heap.size := fun g hg => ⟨(h.1.lt g hg).1, h.2 g hg, (h.1.lt g hg).2⟩
theorem Own.below {B : Nat} (h : Own w lo hi e size v n xs) (hb : Below B w w') (hB : hi ≤ B) : Own w' lo hi e size v n xs := h.of_block fun g hg => hb.block g (by have := h.2 g hg; omega)
theorem Own.tch {l k : Nat} (h : Own w lo hi e size v n xs) (hb : Tch l k w w') (hd : hi ≤ l ∨ k ≤ lo) : Own w' lo hi e size v n xs := h.of_block fun g hg => hb.block g (h.lt g hg).2.2 (by have := h.lt g hg; omega)
theorem Own.alloc (h : Own w lo hi e size v n xs) (o : Obj) : Own (w.alloc o) lo hi e size v n xs := ⟨h.1.alloc o, h.2⟩
theorem Own.drew (h : Own w lo hi e size v n xs) : Own w.drew lo hi e size v n xs := h
theorem Own.of_owns (h : w.ownsRow lo e size v n xs) : Own w lo w.heap.size e size v n xs := ⟨h, fun g hg => (h.lt g hg).2⟩
end
theorem new_cell (w : World) (cs : Array Value) (t : TypeId) (i : Nat) : (w.alloc (.cells cs t)).cell? ⟨w.heap.size, i, none⟩ = cs[i]? := cell_of_row _ w.heap.size i _ _ (0, 0) (heap_alloc_new w _)
theorem new_frozen (w : World) (cs : Array Value) (t : TypeId) (i : Nat) : (w.alloc (.cells cs t)).frozen? ⟨w.heap.size, i, none⟩ = false := by
  obtain ⟨W, hW⟩ : ∃ W : World, W = w.alloc (.cells cs t) := ⟨_, rfl⟩
  have h : W.heap[w.heap.size]? = some (.cells cs t (0, 0)) := by rw [hW]; exact heap_alloc_new w _
  rw [← hW]
  simp [World.frozen?, h]

theorem vint {a b : Int} (h : a = b) : Value.int .i64 a = .int .i64 b := by rw [h]

/-- A row that is filled from the left: the first m cells are the new ones. -/
def fill (xs zs : List Value) (m : Nat) : List Value := xs.take m ++ zs.drop m
theorem fill_zero (xs zs : List Value) : fill xs zs 0 = zs := by simp [fill]
theorem fill_all {xs zs : List Value} {m : Nat} (h : zs.length = xs.length) (hm : m = xs.length) : fill xs zs m = xs := by
  subst hm; unfold fill; rw [List.take_length, ← h, List.drop_length, List.append_nil]
theorem fill_get {xs zs : List Value} {m : Nat} (h : zs.length = xs.length) (hm : m < xs.length) : ∃ u, (fill xs zs m)[m]? = some u := by
  unfold fill
  refine ⟨zs[m], ?_⟩
  rw [List.getElem?_append_right (by rw [List.length_take]; omega), List.length_take, Nat.min_eq_left (by omega), Nat.sub_self, List.getElem?_drop, Nat.add_zero]
  exact List.getElem?_eq_getElem (by omega)
theorem fill_get1 {xs zs : List Value} {m j : Nat} (h : zs.length = xs.length) (hm : m ≤ j) (hj : j < xs.length) : ∃ u, (fill xs zs m)[j]? = some u := by
  unfold fill
  refine ⟨zs[j], ?_⟩
  rw [List.getElem?_append_right (by rw [List.length_take]; omega), List.length_take, Nat.min_eq_left (by omega), List.getElem?_drop, show m + (j - m) = j by omega]
  exact List.getElem?_eq_getElem (by omega)
theorem fill_set {xs zs : List Value} {m : Nat} {u : Value} (h : zs.length = xs.length) (hu : xs[m]? = some u) : (fill xs zs m).set m u = fill xs zs (m + 1) := by
  obtain ⟨hm, rfl⟩ := List.getElem?_eq_some_iff.1 hu
  unfold fill
  rw [List.take_succ_eq_append_getElem hm, List.set_append_right _ _ (by rw [List.length_take]; omega), List.length_take, Nat.min_eq_left (by omega), Nat.sub_self,
    List.drop_eq_getElem_cons (show m < zs.length by omega), List.set_cons_zero, List.append_assoc]
  rfl

theorem owns_below {w w' : World} {base : Nat} {e : TypeId} {size n : Nat} {v : Value} {xs : List Value} (h : w.ownsRow base e size v n xs) (hb : Below w.heap.size w w') : w'.ownsRow base e size v n xs := by
  refine ⟨h.1, ?_⟩
  rcases h.2 with h2 | ⟨g, cap, cur, rfl, hg, hh, r⟩
  · exact .inl h2
  · exact .inr ⟨g, cap, cur, rfl, hg, (hb.block g (Array.getElem?_eq_some_iff.1 hh).1).trans hh, r⟩

/-- The cells of a list of elements of m cells each. -/
def rows {α : Type} (f : α → List Value) (l : List α) : List Value := l.flatMap f
theorem rows_length {α : Type} {f : α → List Value} {m : Nat} (hf : ∀ a, (f a).length = m) (l : List α) : (rows f l).length = l.length * m := by
  induction l with
  | nil => simp [rows]
  | cons a l ih =>
    have ih' : (List.flatMap f l).length = l.length * m := ih
    simp only [rows, List.flatMap_cons, List.length_append, List.length_cons, hf, ih', Nat.add_mul, Nat.one_mul]; omega
theorem rows_at {α : Type} {f : α → List Value} {m : Nat} (hf : ∀ a, (f a).length = m) (l : List α) (k : Nat) (h : k < l.length) (j : Nat) (hj : j < m) : (rows f l)[k * m + j]? = (f l[k])[j]? := by
  induction l generalizing k with
  | nil => simp at h
  | cons a l ih =>
    cases k with
    | zero => simp only [rows, List.flatMap_cons, Nat.zero_mul, Nat.zero_add, List.getElem_cons_zero]; rw [List.getElem?_append_left (by rw [hf]; exact hj)]
    | succ k =>
      have hi := ih k (by simpa using h)
      have e0 : (k + 1) * m + j = m + (k * m + j) := by rw [Nat.add_mul]; omega
      simp only [rows, List.flatMap_cons, List.getElem_cons_succ] at hi ⊢
      rw [e0, List.getElem?_append_right (by rw [hf]; omega), hf, Nat.add_sub_cancel_left]
      exact hi

/-- The numbers q, q + 1, .., n of them: what 'mark' writes. -/
def marks (q : Int) (n : Nat) : List Value := (List.range n).map fun (i : Nat) => Value.int .i64 (q + (i : Int))
theorem marks_length (q : Int) (n : Nat) : (marks q n).length = n := by simp [marks]
theorem marks_at (q : Int) (n k : Nat) (h : k < n) : (marks q n)[k]? = some (.int .i64 (q + (k : Int))) := by simp [marks, h]

theorem tch_set {lo hi : Nat} {w w' : World} (h : Tch lo hi w w') {g : Nat} (h1 : lo ≤ g) (h2 : g < hi) (j : Nat) (u : Value) : Tch lo hi w (w'.setCell ⟨g, j, none⟩ u) :=
  h.trans ⟨rfl, rfl, rfl, by simp [World.setCell], fun k _ hb => Below.heap_setCell _ _ _ _ (by show k ≠ g; omega)⟩
theorem setCell_congr {w w' : World} {a : Addr} {x y : Value} (hw : w = w') (h : x = y) : w.setCell a x = w'.setCell a y := by subst hw; subst h; rfl
theorem own_eq {w w' : World} {base : Nat} {e : TypeId} {size n : Nat} {v : Value} {xs xs' : List Value} (h : w.ownsRow base e size v n xs) (hw : w = w') (hx : xs = xs') : w'.ownsRow base e size v n xs' := by subst hw; subst hx; exact h

end Go.Proofs.YtajjophmngabbaaGreatDoor
