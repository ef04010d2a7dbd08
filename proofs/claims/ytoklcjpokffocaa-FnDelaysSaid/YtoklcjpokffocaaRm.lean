/-
  THE MOTIONS OF A ROUTE: words, and the memory of the two functions that make them. No condition but those that each theorem names.
-/
import Derived.Test.YtoklcjpokffocaaLd2
import Derived.Test.YtoklcjpokffocaaChk
namespace Go.Proofs.Ytoklcjpokffocaa
open Go.RowKit
set_option linter.unusedVariables false
set_option linter.unusedSimpArgs false

/-- The turns of the one crane and of the other in the first steps of a route. -/
def tA (R : List (List Int)) (m : Nat) : List Int := (List.range m).map fun i => trn (r0 R i) (r0 R (i + 1))
def tB (R : List (List Int)) (m : Nat) : List Int := (List.range m).map fun i => trn (r1 R i) (r1 R (i + 1))
theorem tA_len (R : List (List Int)) (m : Nat) : (tA R m).length = m := by simp [tA]
theorem tB_len (R : List (List Int)) (m : Nat) : (tB R m).length = m := by simp [tB]
theorem tA_succ (R : List (List Int)) (m : Nat) : tA R (m + 1) = tA R m ++ [trn (r0 R m) (r0 R (m + 1))] := by simp [tA, List.range_succ]
theorem tB_succ (R : List (List Int)) (m : Nat) : tB R (m + 1) = tB R m ++ [trn (r1 R m) (r1 R (m + 1))] := by simp [tB, List.range_succ]
def rmT (R : List (List Int)) (i : Nat) : Bool := inR (trn (r0 R (i - 1)) (r0 R i)) (-1) 1 && inR (trn (r1 R (i - 1)) (r1 R i)) (-1) 1
def rmF (R : List (List Int)) : Nat → Nat → Int
  | 0, _ => 0
  | f + 1, i => if stV (R.getD i []) = true then (if (decide (i = 0) || rmT R i) = true then rmF R f (i + 1) else 6) else 1
/-- The code of RouteMotions. -/
def rmC (R : List (List Int)) : Int := if inR (R.length : Int) 1 201 = true then rmF R R.length 0 else 2
def rmL (R : List (List Int)) (l : List Int) : List Int := if rmC R = 0 then l else []
def rmX (R : List (List Int)) (x : Int) : Int := if rmC R = 0 then x else 0
theorem rmF_succ (R : List (List Int)) (f i : Nat) : rmF R (f + 1) i = if stV (R.getD i []) = true then (if (decide (i = 0) || rmT R i) = true then rmF R f (i + 1) else 6) else 1 := rfl
theorem r_state {R : List (List Int)} {i : Nat} (h : stV (R.getD i []) = true) : R.getD i [] = [r0 R i, r1 R i] ∧ 0 ≤ r0 R i ∧ r0 R i ≤ 23 ∧ 0 ≤ r1 R i ∧ r1 R i ≤ 23 := by
  obtain ⟨x, y, e, h1, h2, h3, h4⟩ := stV_two h
  unfold r0 r1
  rw [e]
  exact ⟨rfl, h1, h2, h3, h4⟩

/-- The memory of RouteMotions: the two boxes of the results, the two boxes of the motions, the rows of their steps. -/
structure RmI (W : World) (base p1 p2 pa pb : Nat) (xa xb : Int) (va vb : Value) (la lb : List Int) : Prop where
  r1 : Box W p1 [.int .i64 0, .slice none 0 0]
  r2 : Box W p2 [.int .i64 0, .slice none 0 0]
  ba : Box W pa [.int .i64 xa, va]
  bb : Box W pb [.int .i64 xb, vb]
  f1 : Fz W p1
  f2 : Fz W p2
  fa : Fz W pa
  fb : Fz W pb
  oa : W.ownsRow base 2 1 va la.length (rInt64 la)
  ob : W.ownsRow base 2 1 vb lb.length (rInt64 lb)
  ne : ∀ g, va.ownBlock = some g → vb.ownBlock ≠ some g
  na : ∀ g, va.ownBlock = some g → g ≠ p1 ∧ g ≠ p2 ∧ g ≠ pa ∧ g ≠ pb
  nb : ∀ g, vb.ownBlock = some g → g ≠ p1 ∧ g ≠ p2 ∧ g ≠ pa ∧ g ≠ pb
  lt : p1 < W.heap.size ∧ p2 < W.heap.size ∧ pa < W.heap.size ∧ pb < W.heap.size
  di : p1 < p2 ∧ p2 < pa ∧ pa < pb ∧ base ≤ W.heap.size

section
variable {W W' : World} {base p1 p2 pa pb : Nat} {xa xb : Int} {va vb : Value} {la lb : List Int}
theorem owns_of_block {n : Nat} {v : Value} {xs : List Value} {e : TypeId} (h : W.ownsRow base e 1 v n xs) (hk : ∀ g, v.ownBlock = some g → W'.heap[g]? = W.heap[g]?) : W'.ownsRow base e 1 v n xs := ((Own.of_owns h).of_block hk).1
theorem owns_set {n : Nat} {v : Value} {xs : List Value} {e : TypeId} (h : W.ownsRow base e 1 v n xs) {p : Nat} (hp : ∀ g, v.ownBlock = some g → g ≠ p) (j : Nat) (u : Value) : (W.setCell ⟨p, j, none⟩ u).ownsRow base e 1 v n xs :=
  owns_of_block h fun g hg => Below.heap_setCell _ _ _ _ (hp g hg)
theorem RmI.drewN (h : RmI W base p1 p2 pa pb xa xb va vb la lb) (k : Nat) : RmI (W.drewN k) base p1 p2 pa pb xa xb va vb la lb :=
  ⟨h.r1, h.r2, h.ba, h.bb, h.f1, h.f2, h.fa, h.fb, h.oa, h.ob, h.ne, h.na, h.nb, h.lt, h.di⟩
theorem RmI.drew (h : RmI W base p1 p2 pa pb xa xb va vb la lb) : RmI W.drew base p1 p2 pa pb xa xb va vb la lb :=
  ⟨h.r1, h.r2, h.ba, h.bb, h.f1, h.f2, h.fa, h.fb, h.oa, h.ob, h.ne, h.na, h.nb, h.lt, h.di⟩
theorem RmI.alloc (h : RmI W base p1 p2 pa pb xa xb va vb la lb) (o : Obj) : RmI (W.alloc o) base p1 p2 pa pb xa xb va vb la lb := by
  obtain ⟨l1, l2, l3, l4⟩ := h.lt
  refine ⟨h.r1.alloc l1 o, h.r2.alloc l2 o, h.ba.alloc l3 o, h.bb.alloc l4 o, h.f1.alloc l1 o, h.f2.alloc l2 o, h.fa.alloc l3 o, h.fb.alloc l4 o, h.oa.alloc o, h.ob.alloc o, h.ne, h.na, h.nb, ?_, ?_⟩
  · simp; omega
  · have := h.di; simp; omega
theorem RmI.startA (h : RmI W base p1 p2 pa pb xa xb va vb la lb) (y : Int) : RmI (W.setCell ⟨pa, 0, none⟩ (.int .i64 y)) base p1 p2 pa pb y xb va vb la lb := by
  obtain ⟨d1, d2, d3, d4⟩ := h.di
  have hs : (W.setCell ⟨pa, 0, none⟩ (.int .i64 y)).heap.size = W.heap.size := by simp [World.setCell]
  refine ⟨h.r1.far _ _ (by show pa ≠ p1; omega), h.r2.far _ _ (by show pa ≠ p2; omega), h.ba.put 0 _ (by simp), h.bb.far _ _ (by show pa ≠ pb; omega), h.f1.set _ _, h.f2.set _ _, h.fa.set _ _, h.fb.set _ _, owns_set h.oa (fun g hg => (h.na g hg).2.2.1) _ _, owns_set h.ob (fun g hg => (h.nb g hg).2.2.1) _ _, h.ne, h.na, h.nb, by rw [hs]; exact h.lt, by rw [hs]; exact h.di⟩
theorem RmI.startB (h : RmI W base p1 p2 pa pb xa xb va vb la lb) (y : Int) : RmI (W.setCell ⟨pb, 0, none⟩ (.int .i64 y)) base p1 p2 pa pb xa y va vb la lb := by
  obtain ⟨d1, d2, d3, d4⟩ := h.di
  have hs : (W.setCell ⟨pb, 0, none⟩ (.int .i64 y)).heap.size = W.heap.size := by simp [World.setCell]
  refine ⟨h.r1.far _ _ (by show pb ≠ p1; omega), h.r2.far _ _ (by show pb ≠ p2; omega), h.ba.far _ _ (by show pb ≠ pa; omega), h.bb.put 0 _ (by simp), h.f1.set _ _, h.f2.set _ _, h.fa.set _ _, h.fb.set _ _, owns_set h.oa (fun g hg => (h.na g hg).2.2.2) _ _, owns_set h.ob (fun g hg => (h.nb g hg).2.2.2) _ _, h.ne, h.na, h.nb, by rw [hs]; exact h.lt, by rw [hs]; exact h.di⟩
/-- One step more of the first motion: behind the append, and behind the store. -/
theorem RmI.appA (h : RmI W base p1 p2 pa pb xa xb va vb la lb) {g cap m : Nat} {x : Int} {H : Nat} (hm : m = la.length) (ho : W'.ownsRow base 2 1 (.slice (some ⟨g, 0, none⟩) (m + 1) cap) (m + 1) (rInt64 la ++ [.int .i64 x])) (hg : W.grownBy W' va.ownBlock) (hat : va.ownBlock = some g ∨ g = H) (hH : W.heap.size = H) (hlt : g < W'.heap.size) :
    RmI (W'.setCell ⟨pa, 1, none⟩ (.slice (some ⟨g, 0, none⟩) (m + 1) cap)) base p1 p2 pa pb xa xb (.slice (some ⟨g, 0, none⟩) (m + 1) cap) vb (la ++ [x]) lb := by
  subst hm
  obtain ⟨l1, l2, l3, l4⟩ := h.lt
  obtain ⟨d1, d2, d3, d4⟩ := h.di
  have hsz := hg.size
  have hno : ∀ p, p < W.heap.size → (p = p1 ∨ p = p2 ∨ p = pa ∨ p = pb) → W'.heap[p]? = W.heap[p]? := by
    intro p hp hor
    refine hg.block p hp fun e => ?_
    have := h.na p e.symm
    omega
  have hvb : ∀ k, vb.ownBlock = some k → W'.heap[k]? = W.heap[k]? := fun k hk => hg.block k ((h.ob.lt k hk).2) (fun e => h.ne k e.symm hk)
  have gne : g ≠ p1 ∧ g ≠ p2 ∧ g ≠ pa ∧ g ≠ pb := by
    rcases hat with hat | hat
    · exact h.na g hat
    · omega
  have bx : ∀ {p : Nat} {vs : List Value}, p < W.heap.size → (p = p1 ∨ p = p2 ∨ p = pa ∨ p = pb) → Box W p vs → Box W' p vs := fun {p vs} hp hor hb i v hv => (World.cell?_of_block (a := ⟨p, i, none⟩) (hno p hp hor)).trans (hb i v hv)
  have fx : ∀ {p : Nat}, p < W.heap.size → (p = p1 ∨ p = p2 ∨ p = pa ∨ p = pb) → Fz W p → Fz W' p := fun {p} hp hor hb i => (World.frozen?_of_block (a := ⟨p, i, none⟩) (hno p hp hor)).trans (hb i)
  have hs : (W'.setCell ⟨pa, 1, none⟩ (.slice (some ⟨g, 0, none⟩) (la.length + 1) cap)).heap.size = W'.heap.size := by simp [World.setCell]
  refine ⟨(bx l1 (by simp) h.r1).far _ _ (by show pa ≠ p1; omega), (bx l2 (by simp) h.r2).far _ _ (by show pa ≠ p2; omega), (bx l3 (by simp) h.ba).put 1 _ (by simp), (bx l4 (by simp) h.bb).far _ _ (by show pa ≠ pb; omega), (fx l1 (by simp) h.f1).set _ _, (fx l2 (by simp) h.f2).set _ _, (fx l3 (by simp) h.fa).set _ _, (fx l4 (by simp) h.fb).set _ _, ?_, owns_set (owns_of_block h.ob hvb) (fun k hk => (h.nb k hk).2.2.1) _ _, ?_, ?_, h.nb, by rw [hs]; omega, by rw [hs]; omega⟩
  · rw [rInt64_sn2, List.length_append]
    exact owns_set ho (fun k hk => by simp [Value.ownBlock] at hk; omega) _ _
  · intro k hk hk2
    obtain rfl : g = k := by simpa [Value.ownBlock] using hk
    rcases hat with hat | hat
    · exact h.ne g hat hk2
    · have := (h.ob.lt g hk2).2; omega
  · intro k hk
    obtain rfl : g = k := by simpa [Value.ownBlock] using hk
    exact gne
theorem RmI.appB (h : RmI W base p1 p2 pa pb xa xb va vb la lb) {g cap m : Nat} {x : Int} {H : Nat} (hm : m = lb.length) (ho : W'.ownsRow base 2 1 (.slice (some ⟨g, 0, none⟩) (m + 1) cap) (m + 1) (rInt64 lb ++ [.int .i64 x])) (hg : W.grownBy W' vb.ownBlock) (hat : vb.ownBlock = some g ∨ g = H) (hH : W.heap.size = H) (hlt : g < W'.heap.size) :
    RmI (W'.setCell ⟨pb, 1, none⟩ (.slice (some ⟨g, 0, none⟩) (m + 1) cap)) base p1 p2 pa pb xa xb va (.slice (some ⟨g, 0, none⟩) (m + 1) cap) la (lb ++ [x]) := by
  subst hm
  obtain ⟨l1, l2, l3, l4⟩ := h.lt
  obtain ⟨d1, d2, d3, d4⟩ := h.di
  have hsz := hg.size
  have hno : ∀ p, p < W.heap.size → (p = p1 ∨ p = p2 ∨ p = pa ∨ p = pb) → W'.heap[p]? = W.heap[p]? := by
    intro p hp hor
    refine hg.block p hp fun e => ?_
    have := h.nb p e.symm
    omega
  have hva : ∀ k, va.ownBlock = some k → W'.heap[k]? = W.heap[k]? := fun k hk => hg.block k ((h.oa.lt k hk).2) (fun e => h.ne k hk e.symm)
  have gne : g ≠ p1 ∧ g ≠ p2 ∧ g ≠ pa ∧ g ≠ pb := by
    rcases hat with hat | hat
    · exact h.nb g hat
    · omega
  have bx : ∀ {p : Nat} {vs : List Value}, p < W.heap.size → (p = p1 ∨ p = p2 ∨ p = pa ∨ p = pb) → Box W p vs → Box W' p vs := fun {p vs} hp hor hb i v hv => (World.cell?_of_block (a := ⟨p, i, none⟩) (hno p hp hor)).trans (hb i v hv)
  have fx : ∀ {p : Nat}, p < W.heap.size → (p = p1 ∨ p = p2 ∨ p = pa ∨ p = pb) → Fz W p → Fz W' p := fun {p} hp hor hb i => (World.frozen?_of_block (a := ⟨p, i, none⟩) (hno p hp hor)).trans (hb i)
  have hs : (W'.setCell ⟨pb, 1, none⟩ (.slice (some ⟨g, 0, none⟩) (lb.length + 1) cap)).heap.size = W'.heap.size := by simp [World.setCell]
  refine ⟨(bx l1 (by simp) h.r1).far _ _ (by show pb ≠ p1; omega), (bx l2 (by simp) h.r2).far _ _ (by show pb ≠ p2; omega), (bx l3 (by simp) h.ba).far _ _ (by show pb ≠ pa; omega), (bx l4 (by simp) h.bb).put 1 _ (by simp), (fx l1 (by simp) h.f1).set _ _, (fx l2 (by simp) h.f2).set _ _, (fx l3 (by simp) h.fa).set _ _, (fx l4 (by simp) h.fb).set _ _, owns_set (owns_of_block h.oa hva) (fun k hk => (h.na k hk).2.2.2) _ _, ?_, ?_, h.na, ?_, by rw [hs]; omega, by rw [hs]; omega⟩
  · rw [rInt64_sn2, List.length_append]
    exact owns_set ho (fun k hk => by simp [Value.ownBlock] at hk; omega) _ _
  · intro k hk hk2
    obtain rfl : g = k := by simpa [Value.ownBlock] using hk2
    rcases hat with hat | hat
    · exact h.ne g hk hat
    · have := (h.oa.lt g hk).2; omega
  · intro k hk
    obtain rfl : g = k := by simpa [Value.ownBlock] using hk
    exact gne
end
end Go.Proofs.Ytoklcjpokffocaa
