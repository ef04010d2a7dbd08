/-
  STABLE ORDER of events by their seconds, without the program: a list that is in order and keeps, for each second, the events in their order is one list. No condition but those that each theorem names.
-/
import Derived.Test.YtdmhoabidlagmaaFamEvent
namespace Go.Proofs.Ytdmhoabidlagmaa
open Go.RowKit
set_option linter.unusedVariables false
set_option linter.unusedSimpArgs false

abbrev Evt := Int × Int × Int × Int
/-- In order. -/
def Srt (L : List Evt) : Prop := L.Pairwise fun x y => x.1 ≤ y.1
/-- The events of one second. -/
def flt (t : Int) (L : List Evt) : List Evt := L.filter fun e => decide (e.1 = t)
/-- The same events in the same order, second by second. -/
def Sm (L M : List Evt) : Prop := ∀ t, flt t L = flt t M
theorem flt_app (t : Int) (L M : List Evt) : flt t (L ++ M) = flt t L ++ flt t M := List.filter_append ..
theorem flt_nil (t : Int) : flt t [] = [] := rfl
theorem flt_yes {t : Int} {x : Evt} (h : x.1 = t) (L : List Evt) : flt t (x :: L) = x :: flt t L := by simp [flt, h]
theorem flt_no {t : Int} {x : Evt} (h : x.1 ≠ t) (L : List Evt) : flt t (x :: L) = flt t L := by simp [flt, h]
theorem flt_none {t : Int} {L : List Evt} (h : ∀ e ∈ L, e.1 ≠ t) : flt t L = [] := by
  unfold flt
  rw [List.filter_eq_nil_iff]
  intro e he
  simpa using h e he
theorem mem_flt {t : Int} {L : List Evt} {e : Evt} : e ∈ flt t L ↔ e ∈ L ∧ e.1 = t := by simp [flt]
theorem Sm.refl (L : List Evt) : Sm L L := fun _ => rfl
theorem Sm.trans {L M N : List Evt} (h : Sm L M) (k : Sm M N) : Sm L N := fun t => (h t).trans (k t)
theorem Sm.symm {L M : List Evt} (h : Sm L M) : Sm M L := fun t => (h t).symm
theorem Sm.app {L M L' M' : List Evt} (h : Sm L M) (k : Sm L' M') : Sm (L ++ L') (M ++ M') := fun t => by rw [flt_app, flt_app, h t, k t]
theorem Sm.mem {L M : List Evt} (h : Sm L M) {e : Evt} : e ∈ L ↔ e ∈ M := by
  have h1 := @mem_flt e.1 L e
  have h2 := @mem_flt e.1 M e
  rw [h e.1] at h1
  constructor
  · intro he; exact (h2.1 (h1.2 ⟨he, rfl⟩)).1
  · intro he; exact (h1.1 (h2.2 ⟨he, rfl⟩)).1
/-- Two pieces change their places where no second of the one is a second of the other. -/
theorem Sm.swap {U V : List Evt} (h : ∀ u ∈ U, ∀ v ∈ V, v.1 < u.1) : Sm (V ++ U) (U ++ V) := fun t => by
  rw [flt_app, flt_app]
  by_cases hu : ∃ u ∈ U, u.1 = t
  · obtain ⟨u, hu, rfl⟩ := hu
    rw [flt_none (L := V) (fun v hv => by have := h u hu v hv; omega)]
    simp
  · rw [flt_none (L := U) (fun u hu' e => hu ⟨u, hu', e⟩)]
    simp
theorem Srt.cons {x : Evt} {L : List Evt} : Srt (x :: L) ↔ (∀ y ∈ L, x.1 ≤ y.1) ∧ Srt L := List.pairwise_cons
theorem Srt.app {L M : List Evt} : Srt (L ++ M) ↔ Srt L ∧ Srt M ∧ ∀ x ∈ L, ∀ y ∈ M, x.1 ≤ y.1 := List.pairwise_append
/-- THE ONE LIST. -/
theorem srt_one : ∀ (L M : List Evt), Srt L → Srt M → Sm L M → L = M := by
  intro L
  induction L with
  | nil =>
    intro M _ _ h
    cases M with
    | nil => rfl
    | cons y M =>
      have := (h.mem (e := y)).2 (by simp)
      simp at this
  | cons x L ih =>
    intro M hL hM h
    cases M with
    | nil =>
      have := (h.mem (e := x)).1 (by simp)
      simp at this
    | cons y M =>
      obtain ⟨a1, a2⟩ := Srt.cons.1 hL
      obtain ⟨b1, b2⟩ := Srt.cons.1 hM
      have hxy : x.1 ≤ y.1 := by
        have hy : y ∈ x :: L := (h.mem (e := y)).2 (by simp)
        rcases List.mem_cons.1 hy with rfl | hy
        · exact Int.le_refl _
        · exact a1 y hy
      have hyx : y.1 ≤ x.1 := by
        have hx : x ∈ y :: M := (h.mem (e := x)).1 (by simp)
        rcases List.mem_cons.1 hx with rfl | hx
        · exact Int.le_refl _
        · exact b1 x hx
      have e : y.1 = x.1 := by omega
      have h0 := h x.1
      rw [flt_yes rfl, flt_yes e] at h0
      injection h0 with h1 h2
      subst h1
      refine congrArg _ (ih M a2 b2 fun t => ?_)
      by_cases ht : x.1 = t
      · subst ht; exact h2
      · have := h t
        rwa [flt_no ht, flt_no ht] at this
/-- The stable order of a list. -/
def insE (x : Evt) : List Evt → List Evt
  | [] => [x]
  | y :: M => if x.1 ≤ y.1 then x :: y :: M else y :: insE x M
def stS : List Evt → List Evt
  | [] => []
  | x :: L => insE x (stS L)
theorem insE_sm (x : Evt) (M : List Evt) : Sm (insE x M) (x :: M) := by
  induction M with
  | nil => exact Sm.refl _
  | cons y M ih =>
    unfold insE
    split
    · exact Sm.refl _
    · rename_i hxy
      intro t
      by_cases hy : y.1 = t
      · rw [flt_yes hy, ih t, flt_no (by omega), flt_no (by omega), flt_yes hy]
      · rw [flt_no hy, ih t]
        by_cases hx : x.1 = t
        · rw [flt_yes hx, flt_yes hx, flt_no hy]
        · rw [flt_no hx, flt_no hx, flt_no hy]
theorem insE_mem {x e : Evt} {M : List Evt} : e ∈ insE x M ↔ e = x ∨ e ∈ M := by rw [(insE_sm x M).mem]; simp
theorem insE_srt (x : Evt) (M : List Evt) (h : Srt M) : Srt (insE x M) := by
  induction M with
  | nil => unfold insE; exact List.pairwise_singleton _ _
  | cons y M ih =>
    obtain ⟨h1, h2⟩ := Srt.cons.1 h
    unfold insE
    split
    · rename_i hxy
      refine Srt.cons.2 ⟨fun z hz => ?_, h⟩
      rcases List.mem_cons.1 hz with rfl | hz
      · exact hxy
      · exact Int.le_trans hxy (h1 z hz)
    · rename_i hxy
      refine Srt.cons.2 ⟨fun z hz => ?_, ih h2⟩
      rcases insE_mem.1 hz with rfl | hz
      · omega
      · exact h1 z hz
theorem stS_srt : ∀ L, Srt (stS L) := by
  intro L
  induction L with
  | nil => exact List.Pairwise.nil
  | cons x L ih => exact insE_srt x _ ih
theorem stS_sm : ∀ L, Sm (stS L) L := by
  intro L
  induction L with
  | nil => exact Sm.refl _
  | cons x L ih => exact (insE_sm x _).trans (Sm.app (L := [x]) (M := [x]) (Sm.refl _) ih)
theorem stS_len : ∀ L, (stS L).length = L.length := by
  have hi : ∀ x M, (insE x M).length = M.length + 1 := by
    intro x M
    induction M with
    | nil => rfl
    | cons y M ih => unfold insE; split <;> simp [ih]
  intro L
  induction L with
  | nil => rfl
  | cons x L ih => unfold stS; rw [hi, ih]; rfl
theorem st_eq {L M : List Evt} (h1 : Srt M) (h2 : Sm M L) : M = stS L := srt_one _ _ h1 (stS_srt L) (h2.trans (stS_sm L).symm)

/-- Rising seconds, as the two programs ask it. -/
def kev (L : List Evt) (i : Nat) : Int := (L.getD i (0, 0, 0, 0)).1
def risV (L : List Evt) : Bool := (List.range L.length).all fun i => decide (i = 0) || decide (kev L (i - 1) ≤ kev L i)
theorem ris_bad {L : List Evt} {i : Nat} (h0 : 0 < i) (hi : i < L.length) (h : kev L i < kev L (i - 1)) : risV L = false := by
  cases e : risV L
  · rfl
  · have := List.all_eq_true.1 e i (List.mem_range.2 hi)
    rw [Bool.or_eq_true] at this
    rcases this with e | e
    · have := of_decide_eq_true e; omega
    · have := of_decide_eq_true e; omega
theorem ris_good {L : List Evt} (h : ∀ i, 0 < i → i < L.length → kev L (i - 1) ≤ kev L i) : risV L = true := by
  refine List.all_eq_true.2 fun i hi => ?_
  by_cases h0 : i = 0
  · simp [h0]
  · simp [h i (by omega) (List.mem_range.1 hi)]
theorem ris_at {L : List Evt} (h : risV L = true) {i : Nat} (h0 : 0 < i) (hi : i < L.length) : kev L (i - 1) ≤ kev L i := by
  have := List.all_eq_true.1 h i (List.mem_range.2 hi)
  rw [Bool.or_eq_true] at this
  rcases this with e | e
  · have := of_decide_eq_true e; omega
  · exact of_decide_eq_true e
theorem ris_le {L : List Evt} (h : risV L = true) {i j : Nat} (hij : i ≤ j) (hj : j < L.length) : kev L i ≤ kev L j := by
  induction j with
  | zero => obtain rfl : i = 0 := by omega
            exact Int.le_refl _
  | succ j ih =>
    by_cases e : i = j + 1
    · subst e; exact Int.le_refl _
    · have h1 := ih (by omega) (by omega)
      have h2 := ris_at h (i := j + 1) (by omega) hj
      rw [Nat.add_sub_cancel] at h2
      omega
/-- Order, place by place. -/
theorem srt_kev {L : List Evt} : Srt L ↔ ∀ i j, i ≤ j → j < L.length → kev L i ≤ kev L j := by
  unfold Srt
  rw [List.pairwise_iff_getElem]
  constructor
  · intro h i j hij hj
    by_cases e : i = j
    · subst e; exact Int.le_refl _
    · have := h i j (by omega) hj (by omega)
      simpa [kev, List.getD, hj, show i < L.length by omega] using this
  · intro h i j hi hj hij
    have := h i j (by omega) hj
    simpa [kev, List.getD, hi, hj] using this
theorem ris_srt {L : List Evt} (h : risV L = true) : Srt L := srt_kev.2 fun i j hij hj => ris_le h hij hj
theorem kev_at {L : List Evt} {i : Nat} (h : i < L.length) : kev L i = L[i].1 := by simp [kev, List.getD, h]

/-- The reference's merge: what stands in the result so far. -/
structure MgI (a b : List Evt) (i k : Nat) (O : List Evt) : Prop where
  srt : Srt O
  sm : Sm O (a.take i ++ b.take k)
  leA : ∀ e ∈ O, ∀ j, i ≤ j → j < a.length → e.1 ≤ kev a j
  leB : ∀ e ∈ O, ∀ j, k ≤ j → j < b.length → e.1 ≤ kev b j
  lt : ∀ e ∈ b.take k, ∀ j, i ≤ j → j < a.length → e.1 < kev a j
theorem MgI.start (a b : List Evt) : MgI a b 0 0 [] := ⟨List.Pairwise.nil, Sm.refl _, fun e h => by simp at h, fun e h => by simp at h, fun e h => by simp at h⟩
theorem MgI.pushB {a b : List Evt} {i k : Nat} {O : List Evt} (h : MgI a b i k O) (ha : risV a = true) (hb : risV b = true) (hi : i < a.length) (hk : k < b.length) (hlt : kev b k < kev a i) : MgI a b i (k + 1) (O ++ [b[k]]) := by
  have ek := kev_at hk
  have hbefore : ∀ e ∈ O ++ [b[k]], e ∈ O ∨ e = b[k] := by simp
  refine ⟨Srt.app.2 ⟨h.srt, List.pairwise_singleton _ _, fun x hx y hy => ?_⟩, ?_, fun e he j h1 h2 => ?_, fun e he j h1 h2 => ?_, fun e he j h1 h2 => ?_⟩
  · obtain rfl : y = b[k] := by simpa using hy
    rw [← ek]; exact h.leB x hx k (Nat.le_refl _) hk
  · rw [List.take_succ_eq_append_getElem hk, ← List.append_assoc]
    exact Sm.app h.sm (Sm.refl _)
  · rcases hbefore e he with he | rfl
    · exact h.leA e he j h1 h2
    · have := ris_le ha h1 h2; omega
  · rcases hbefore e he with he | rfl
    · exact h.leB e he j (by omega) h2
    · rw [← ek]; exact ris_le hb (by omega) h2
  · rw [List.take_succ_eq_append_getElem hk] at he
    rcases List.mem_append.1 he with he | he
    · exact h.lt e he j h1 h2
    · obtain rfl : e = b[k] := by simpa using he
      have := ris_le ha h1 h2; omega
theorem MgI.pushA {a b : List Evt} {i k : Nat} {O : List Evt} (h : MgI a b i k O) (ha : risV a = true) (hb : risV b = true) (hi : i < a.length) (hk : k < b.length → kev a i ≤ kev b k) : MgI a b (i + 1) k (O ++ [a[i]]) := by
  have ei := kev_at hi
  have hbefore : ∀ e ∈ O ++ [a[i]], e ∈ O ∨ e = a[i] := by simp
  refine ⟨Srt.app.2 ⟨h.srt, List.pairwise_singleton _ _, fun x hx y hy => ?_⟩, ?_, fun e he j h1 h2 => ?_, fun e he j h1 h2 => ?_, fun e he j h1 h2 => h.lt e he j (by omega) h2⟩
  · obtain rfl : y = a[i] := by simpa using hy
    rw [← ei]; exact h.leA x hx i (Nat.le_refl _) hi
  · rw [List.take_succ_eq_append_getElem hi, List.append_assoc]
    refine (Sm.app h.sm (Sm.refl [a[i]])).trans ?_
    rw [List.append_assoc]
    refine Sm.app (Sm.refl _) (Sm.symm ?_)
    refine (Sm.swap (U := [a[i]]) (V := b.take k) ?_).symm
    intro u hu v hv
    obtain rfl : u = a[i] := by simpa using hu
    rw [← ei]; exact h.lt v hv i (Nat.le_refl _) hi
  · rcases hbefore e he with he | rfl
    · exact h.leA e he j (by omega) h2
    · rw [← ei]; exact ris_le ha (by omega) h2
  · rcases hbefore e he with he | rfl
    · exact h.leB e he j h1 h2
    · rw [← ei]
      exact Int.le_trans (hk (by omega)) (ris_le hb h1 h2)
theorem MgI.done {a b : List Evt} {k : Nat} {O : List Evt} (h : MgI a b a.length k O) (hb : risV b = true) : O ++ b.drop k = stS (a ++ b) := by
  refine st_eq (Srt.app.2 ⟨h.srt, (ris_srt hb).sublist (List.drop_sublist _ _), fun x hx y hy => ?_⟩) ?_
  · obtain ⟨j, hj, rfl⟩ := List.getElem_of_mem hy
    rw [List.getElem_drop]
    rw [List.length_drop] at hj
    rw [← kev_at]
    exact h.leB x hx _ (by omega) (by omega)
  · have e : a ++ b = (a.take a.length ++ b.take k) ++ b.drop k := by rw [List.take_length, List.append_assoc, List.take_append_drop]
    rw [e]
    exact Sm.app h.sm (Sm.refl _)
end Go.Proofs.Ytdmhoabidlagmaa
