/-
  WORDS FOR SLICES OF SLICES, over any program: rows that the call owns, each in a block of its own; a slice of slices that reads as a list of lists. No condition.
-/
import Derived.Test.YtajjophmngabbaaGreatDoorMem
namespace Go.Proofs.YtajjophmngabbaaGreatDoor
open Go.RowKit

/-- The slice of slices '.slice A n c' reads as the rows rs (each a list of cells). -/
def RdSS (w : World) (lo hi : Nat) (A : Option Addr) (n : Nat) (rs : List (List Value)) : Prop :=
  ∃ vs : List Value, Rd w lo hi 1 A n vs ∧ rs.length = n ∧ ∀ i (h : i < rs.length), ∃ Ai ni ci, vs[i]? = some (.slice Ai ni ci) ∧ ni ≤ maxLen ∧ Rd w lo hi 1 Ai ni rs[i]

/-- The values us are rows of the call's own that hold the lists rs, no two in one block. -/
structure Rows (w : World) (lo hi : Nat) (E : TypeId) (us : List Value) (rs : List (List Value)) : Prop where
  len : us.length = rs.length
  row : ∀ (i : Nat) (v : Value) (r : List Value), us[i]? = some v → rs[i]? = some r → Own w lo hi E 1 v r.length r
  far : ∀ (i j : Nat) (v u : Value) (g : Nat), i ≠ j → us[i]? = some v → us[j]? = some u → v.ownBlock = some g → u.ownBlock ≠ some g

/-- A slice of slices of the call's own. -/
def OwnSS (w : World) (lo hi : Nat) (T E : TypeId) (v : Value) (n : Nat) (rs : List (List Value)) : Prop :=
  ∃ us, Own w lo hi T 1 v n us ∧ Rows w lo hi E us rs

section
variable {w w' : World} {lo hi lo' hi' n : Nat} {A : Option Addr} {rs : List (List Value)} {us : List Value} {E T : TypeId} {v : Value}

theorem RdSS.length (h : RdSS w lo hi A n rs) : rs.length = n := by obtain ⟨_, _, h, _⟩ := h; exact h
theorem RdSS.keep (h : RdSS w lo hi A n rs) (hk : ∀ p : Addr, lo ≤ p.block → p.block < hi → w'.cell? p = w.cell? p) : RdSS w' lo hi A n rs := by
  obtain ⟨vs, h1, h2, h3⟩ := h
  refine ⟨vs, h1.keep hk, h2, fun i hi => ?_⟩
  obtain ⟨Ai, ni, ci, a, b, c⟩ := h3 i hi
  exact ⟨Ai, ni, ci, a, b, c.keep hk⟩
theorem RdSS.below {B : Nat} (h : RdSS w lo hi A n rs) (hb : Below B w w') (hB : hi ≤ B) : RdSS w' lo hi A n rs := h.keep fun _ _ hp => hb.cell (by omega)
theorem RdSS.tch {l k : Nat} (h : RdSS w lo hi A n rs) (hb : Tch l k w w') (hw : hi ≤ w.heap.size) (hd : hi ≤ l ∨ k ≤ lo) : RdSS w' lo hi A n rs := h.keep fun _ h1 h2 => hb.cell (by omega) (by omega)
theorem RdSS.mono (h : RdSS w lo hi A n rs) (h1 : lo' ≤ lo) (h2 : hi ≤ hi') : RdSS w lo' hi' A n rs := by
  obtain ⟨vs, k1, k2, k3⟩ := h
  refine ⟨vs, k1.mono h1 h2, k2, fun i hi => ?_⟩
  obtain ⟨Ai, ni, ci, a, b, c⟩ := k3 i hi
  exact ⟨Ai, ni, ci, a, b, c.mono h1 h2⟩
/-- The i-th row: its cell, and what it reads. -/
theorem RdSS.at_ {i : Nat} (h : RdSS w lo hi A n rs) (hi' : i < n) : ∃ b off Ai ni ci, A = some ⟨b, off, none⟩ ∧ lo ≤ b ∧ b < hi ∧ w.cell? ⟨b, off + i, none⟩ = some (.slice Ai ni ci) ∧ ni ≤ maxLen ∧ ni = (rs.getD i []).length ∧ Rd w lo hi 1 Ai ni (rs.getD i []) := by
  obtain ⟨vs, h1, h2, h3⟩ := h
  obtain ⟨Ai, ni, ci, a, hm, c⟩ := h3 i (by omega)
  obtain ⟨b, off, hA, l1, l2, hc⟩ := h1.2 (by omega)
  have e : rs.getD i [] = rs[i]'(by omega) := by simp [List.getD, show i < rs.length by omega]
  exact ⟨b, off, Ai, ni, ci, hA, l1, l2, hc i _ a, hm, by rw [e]; exact c.length1.symm, by rw [e]; exact c⟩

theorem Rows.nil (w : World) (lo hi : Nat) (E : TypeId) : Rows w lo hi E [] [] :=
  ⟨rfl, fun i v r h => by simp at h, fun i j v u g _ h => by simp at h⟩
theorem Rows.of_block (h : Rows w lo hi E us rs) (hk : ∀ g, lo ≤ g → g < hi → g < w.heap.size → w'.heap[g]? = w.heap[g]?) : Rows w' lo hi E us rs :=
  ⟨h.len, fun i v r h1 h2 => (h.row i v r h1 h2).of_block fun g hg => by obtain ⟨a, b, c⟩ := (h.row i v r h1 h2).lt g hg; exact hk g a b c, h.far⟩
theorem Rows.below {B : Nat} (h : Rows w lo hi E us rs) (hb : Below B w w') (hB : hi ≤ B) : Rows w' lo hi E us rs := h.of_block fun g _ h2 _ => hb.block g (by omega)
theorem Rows.tch {l k : Nat} (h : Rows w lo hi E us rs) (hb : Tch l k w w') (hd : hi ≤ l ∨ k ≤ lo) : Rows w' lo hi E us rs := h.of_block fun g h1 h2 h3 => hb.block g h3 (by omega)
theorem Rows.mono (h : Rows w lo hi E us rs) (h1 : lo' ≤ lo) (h2 : hi ≤ hi') : Rows w lo' hi' E us rs :=
  ⟨h.len, fun i v r k1 k2 => (h.row i v r k1 k2).mono h1 h2, h.far⟩
/-- One row more, in a block that is new. -/
theorem Rows.snoc (h : Rows w lo hi E us rs) {r : List Value} (hnew : Own w lo' hi' E 1 v r.length r) (h1 : lo ≤ lo') (h2 : hi ≤ lo') (h3 : hi ≤ hi') : Rows w lo hi' E (us ++ [v]) (rs ++ [r]) := by
  refine ⟨by simp [h.len], fun i u s e1 e2 => ?_, fun i j u u' g hne e1 e2 eg => ?_⟩
  · rcases Nat.lt_or_ge i us.length with hi | hi
    · rw [List.getElem?_append_left hi] at e1
      rw [List.getElem?_append_left (by rw [← h.len]; exact hi)] at e2
      exact (h.row i u s e1 e2).mono (Nat.le_refl _) h3
    · have hi0 : i = us.length := by
        have := (List.getElem?_eq_some_iff.1 e1).1
        simp at this; omega
      subst hi0
      rw [List.getElem?_append_right (Nat.le_refl _), Nat.sub_self] at e1
      rw [h.len, List.getElem?_append_right (Nat.le_refl _), Nat.sub_self] at e2
      simp at e1 e2
      subst e1; subst e2
      exact hnew.mono h1 (Nat.le_refl _)
  · have old : ∀ (k : Nat) (x : Value), us[k]? = some x → ∀ y, x.ownBlock = some y → y < hi := by
      intro k x hx y hy
      have hk : k < rs.length := by rw [← h.len]; exact (List.getElem?_eq_some_iff.1 hx).1
      exact ((h.row k x rs[k] hx (List.getElem?_eq_getElem hk)).lt y hy).2.1
    have lt_or : ∀ (k : Nat) (x : Value), (us ++ [v])[k]? = some x → (us[k]? = some x) ∨ (k = us.length ∧ x = v) := by
      intro k x hx
      rcases Nat.lt_or_ge k us.length with hk | hk
      · rw [List.getElem?_append_left hk] at hx; exact .inl hx
      · have hk0 : k = us.length := by
          have := (List.getElem?_eq_some_iff.1 hx).1
          simp at this; omega
        subst hk0
        rw [List.getElem?_append_right (Nat.le_refl _), Nat.sub_self] at hx
        simp at hx
        exact .inr ⟨rfl, hx.symm⟩
    rcases lt_or i u e1 with a | ⟨a, rfl⟩ <;> rcases lt_or j u' e2 with b | ⟨b, rfl⟩
    · exact h.far i j u u' g hne a b eg
    · intro e
      have k1 := old i u a g eg
      have k2 := (hnew.lt g e).1
      omega
    · intro e
      have k1 := old j u' b g e
      have k2 := (hnew.lt g eg).1
      omega
    · exact absurd (a.trans b.symm) hne

theorem OwnSS.below {B : Nat} (h : OwnSS w lo hi T E v n rs) (hb : Below B w w') (hB : hi ≤ B) : OwnSS w' lo hi T E v n rs := by
  obtain ⟨us, h1, h2⟩ := h; exact ⟨us, h1.below hb hB, h2.below hb hB⟩
theorem OwnSS.tch {l k : Nat} (h : OwnSS w lo hi T E v n rs) (hb : Tch l k w w') (hd : hi ≤ l ∨ k ≤ lo) : OwnSS w' lo hi T E v n rs := by
  obtain ⟨us, h1, h2⟩ := h; exact ⟨us, h1.tch hb hd, h2.tch hb hd⟩
theorem OwnSS.mono (h : OwnSS w lo hi T E v n rs) (h1 : lo' ≤ lo) (h2 : hi ≤ hi') : OwnSS w lo' hi' T E v n rs := by
  obtain ⟨us, k1, k2⟩ := h; exact ⟨us, k1.mono h1 h2, k2.mono h1 h2⟩
theorem OwnSS.length (h : OwnSS w lo hi T E v n rs) : rs.length = n := by
  obtain ⟨us, h1, h2⟩ := h; rw [← h2.len]; simpa using h1.length
theorem OwnSS.rd (h : OwnSS w lo hi T E v n rs) : ∃ A c, v = .slice A n c ∧ n ≤ c ∧ c ≤ maxLen ∧ RdSS w lo hi A n rs := by
  have hlen := h.length
  obtain ⟨us, h1, h2⟩ := h
  obtain ⟨A, c, rfl, hnc, hcm, hr⟩ := h1.rd
  refine ⟨A, c, rfl, hnc, hcm, us, hr, hlen, fun i hi => ?_⟩
  have hu : i < us.length := by rw [h2.len]; exact hi
  obtain ⟨Ai, ci, e, k1, k2, k3⟩ := (h2.row i us[i] rs[i] (List.getElem?_eq_getElem hu) (List.getElem?_eq_getElem hi)).rd
  exact ⟨Ai, _, ci, by rw [List.getElem?_eq_getElem hu, e], Nat.le_trans k1 k2, k3⟩
theorem OwnSS.nil_ (w : World) (lo hi : Nat) (T E : TypeId) : OwnSS w lo hi T E (.slice none 0 0) 0 [] :=
  ⟨[], ⟨World.ownsRow_nil _ _ _ _, fun g hg => by simp [Value.ownBlock] at hg⟩, Rows.nil _ _ _ _⟩

/-- Rows whose element types differ never share a block. -/
theorem own_ne {e e' : TypeId} {size size' n n' : Nat} {v v' : Value} {xs xs' : List Value} {base base' : Nat} (h : w.ownsRow base e size v n xs) (h' : w.ownsRow base' e' size' v' n' xs') (hne : e ≠ e') :
    ∀ g, v.ownBlock = some g → v'.ownBlock ≠ some g := by
  intro g hg hg'
  rcases h.2 with ⟨rfl, _⟩ | ⟨g1, cap, cur, rfl, _, hh, _⟩
  · simp [Value.ownBlock] at hg
  rcases h'.2 with ⟨rfl, _⟩ | ⟨g2, cap2, cur2, rfl, _, hh2, _⟩
  · simp [Value.ownBlock] at hg'
  simp [Value.ownBlock] at hg hg'
  subst hg; subst hg'
  rw [hh] at hh2
  simp at hh2
  exact hne hh2.2

theorem set_snoc {us zs : List Value} {k : Nat} (hk : us.length = k) (h : k < zs.length) (v : Value) : (us ++ zs.drop k).set k v = (us ++ [v]) ++ zs.drop (k + 1) := by
  rw [List.set_append_right _ _ (by omega), hk, Nat.sub_self, List.drop_eq_getElem_cons h, List.set_cons_zero, List.append_assoc]
  rfl
end

/-- How many cells the first k rows have. -/
def tot (rs : List (List Value)) (k : Nat) : Nat := ((rs.take k).map List.length).sum
theorem tot_zero (rs : List (List Value)) : tot rs 0 = 0 := by simp [tot]
theorem tot_succ (rs : List (List Value)) (k : Nat) (h : k < rs.length) : tot rs (k + 1) = tot rs k + (rs.getD k []).length := by
  unfold tot
  rw [List.take_succ_eq_append_getElem h, List.map_append, List.sum_append]
  simp [List.getD, h]
theorem tot_mono (rs : List (List Value)) {j k : Nat} (h : j ≤ k) : tot rs j ≤ tot rs k := by
  rcases Nat.lt_or_ge j rs.length with hj | hj
  · induction k with
    | zero => obtain rfl : j = 0 := by omega
              exact Nat.le_refl _
    | succ k ih =>
      rcases Nat.lt_or_ge k j with h1 | h1
      · obtain rfl : j = k + 1 := by omega
        exact Nat.le_refl _
      · refine Nat.le_trans (ih h1) ?_
        rcases Nat.lt_or_ge k rs.length with h2 | h2
        · rw [tot_succ rs k h2]; omega
        · unfold tot; rw [List.take_of_length_le h2, List.take_of_length_le (by omega)]; exact Nat.le_refl _
  · unfold tot; rw [List.take_of_length_le hj, List.take_of_length_le (by omega)]; exact Nat.le_refl _
end Go.Proofs.YtajjophmngabbaaGreatDoor
