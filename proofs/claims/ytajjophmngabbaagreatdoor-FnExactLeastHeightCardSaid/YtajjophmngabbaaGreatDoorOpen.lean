/-
  ARGUMENTS OPENED, over any program: a slice of structs of plain fields reads as a list. No condition.
-/
import Derived.Test.YtajjophmngabbaaGreatDoorRows2
import Derived.Deep.Slices
import Derived.Deep.Fields
import Derived.ChangeSame
namespace Go.Proofs.YtajjophmngabbaaGreatDoor
open Go.RowKit Go.ChangeShapes Go.WideShapes Go.Deep

section
variable {H : Type} {enc : TypeId × Value → H} {P : Program} {w : World} {base : Nat} {spare : Nat → Bool} {held : Bool}
theorem open_slice_fields {t e : TypeId} {fs : Array Field} {fuel : Nat} {cs : List Value} {x : DataW H × List MemPlace} (ht : P.underlying t = some (.slice e)) (he : P.underlying e = some (.struct fs))
    (hone : oneCellFields P fs = true) (hC : P.cellsOf e = fs.size) (h : DataW.trod enc P w base spare held fuel t cs = some x) :
    (cs = [.slice none 0 0] ∧ x = (.nil, [])) ∨
    ∃ (a : Addr) (len cap m : Nat) (D : Nat → DataW H) (Pl : Nat → List MemPlace), cs = [.slice (some a) len cap] ∧ base ≤ a.block ∧ len ≤ cap ∧ cap ≤ maxLen ∧ m = (if spare a.block then cap else len) ∧
      x = (.slice ((List.range len).map D) ((List.range (m - len)).map fun j => D (len + j)), MemPlace.row a (m * fs.size) ++ (List.range m).flatMap Pl) ∧
      ∀ i, i < m → ∃ (ys : List (DataW H × List MemPlace)) (n : Nat), D i = .agg (ys.map (·.1)) ∧ Pl i = ys.flatMap (·.2) ∧ ys.length = fs.size ∧
        ∀ (j : Nat) (f : Field), fs[j]? = some f → ∃ (v : Value) (y : DataW H × List MemPlace), w.cell? (a.add (i * fs.size + j)) = some v ∧ ys[j]? = some y ∧ DataW.trod enc P w base spare held n f.type [v] = some y := by
  rcases open_slice ht h with h0 | ⟨a, len, cap, m, n, D, Pl, hcs, hb, hl, hm, hmm, hx, hi⟩
  · exact .inl h0
  · refine .inr ⟨a, len, cap, m, D, Pl, hcs, hb, hl, hm, hmm, by rw [hC] at hx; exact hx, fun i him => ?_⟩
    obtain ⟨cs', hc, ht'⟩ := hi i him
    rw [hC] at hc
    obtain ⟨ys, n', hn', hy, hlen, hyl, hf⟩ := DataW.trod_struct he ht'
    obtain ⟨_, hcl, hat⟩ := World.cells?_some hc
    simp only [Prod.mk.injEq] at hy
    refine ⟨ys, n', hy.1, hy.2, hyl, fun j f hj => ?_⟩
    obtain ⟨ho, hk⟩ := hone_of hone j f hj
    have hjl : j < fs.size := (Array.getElem?_eq_some_iff.1 hj).1
    have hcell := hat j hjl
    have hv : cs'[j]? = some (cs'[j]'(by omega)) := List.getElem?_eq_getElem (by omega)
    have h1 := hf j f hj
    rw [ho, hk] at h1
    have hone' : (cs'.drop j).take 1 = [cs'[j]'(by omega)] := by
      rw [List.drop_eq_getElem_cons (by omega)]
      rfl
    rw [hone'] at h1
    have hys : ys[j]? = some (ys[j]'(by omega)) := List.getElem?_eq_getElem (by omega)
    refine ⟨_, _, ?_, hys, h1.trans hys⟩
    rw [← Go.Deep.add_add, hcell, hv]
end

theorem choose_list {α : Type} (Q : Nat → α → Prop) : ∀ n : Nat, (∀ i, i < n → ∃ x, Q i x) → ∃ l : List α, l.length = n ∧ ∀ i (h : i < l.length), Q i l[i]
  | 0, _ => ⟨[], rfl, fun i h => absurd h (by simp)⟩
  | n + 1, h => by
    obtain ⟨l, hl, hq⟩ := choose_list Q n (fun i hi => h i (by omega))
    obtain ⟨x, hx⟩ := h n (by omega)
    refine ⟨l ++ [x], by simp [hl], fun i hi => ?_⟩
    rcases Nat.lt_or_ge i n with h1 | h1
    · rw [List.getElem_append_left (by omega)]
      exact hq i (by omega)
    · have hin : i = n := by simp [hl] at hi; omega
      subst hin
      rw [List.getElem_append_right (by omega)]
      simpa [hl] using hx

/-- The elements found one by one: the slice reads as a list of them. -/
theorem open_rows {w : World} {α : Type} {f : α → List Value} {m n : Nat} (hf : ∀ p, (f p).length = m) (hm : 0 < m) (G : α → Prop) (a : Addr)
    (hel : ∀ i, i < n → ∃ p, G p ∧ ∀ j u, (f p)[j]? = some u → w.cell? (a.add (i * m + j)) = some u) :
    ∃ l : List α, l.length = n ∧ Rd w 0 w.heap.size m (some a) n (rows f l) ∧ ∀ p ∈ l, G p := by
  obtain ⟨l, hl, hq⟩ := choose_list _ n hel
  have hcell : ∀ q u, (rows f l)[q]? = some u → w.cell? (a.add q) = some u := by
    intro q u hu
    have hqlt : q < l.length * m := by
      have := (List.getElem?_eq_some_iff.1 hu).1
      rwa [rows_length hf] at this
    have hk : q / m < l.length := by rw [Nat.div_lt_iff_lt_mul hm]; exact hqlt
    have hj : q % m < m := Nat.mod_lt _ hm
    have e : q / m * m + q % m = q := by rw [Nat.mul_comm]; exact Nat.div_add_mod q m
    have h1 := rows_at hf l (q / m) hk (q % m) hj
    rw [e, hu] at h1
    have h2 := (hq (q / m) hk).2 (q % m) u h1.symm
    rwa [e] at h2
  refine ⟨l, hl, ⟨by rw [rows_length hf, hl], fun hn => ?_⟩, fun p hp => ?_⟩
  · have h0 : 0 < (rows f l).length := by rw [rows_length hf, hl]; exact Nat.mul_pos hn hm
    obtain ⟨b, off, spot⟩ := a
    have hc0 := hcell 0 _ (List.getElem?_eq_getElem h0)
    have hspot : spot = none := by simpa [Addr.add] using World.cell?_spot hc0
    subst hspot
    have hb : b < w.heap.size := by
      have := World.block_lt_of_cell? w _ hc0
      rwa [Go.WideShapes.add_plain] at this
    exact ⟨b, off, rfl, Nat.zero_le _, hb, fun j u hu => by rw [← Go.WideShapes.add_plain]; exact hcell j u hu⟩
  · obtain ⟨i, hi, rfl⟩ := List.mem_iff_getElem.1 hp
    exact (hq i hi).1

/-- A slice of one-cell elements. -/
theorem open1 {H : Type} {enc : TypeId × Value → H} {P : Program} {w : World} {t e : TypeId} {fuel : Nat} {cs : List Value} {x : DataW H × List MemPlace} {α : Type} (f : α → Value) (G : α → Prop)
    (ht : P.underlying t = some (.slice e)) (hc : P.cellsOf e = 1)
    (hel : ∀ (v : Value) (n : Nat) (y : DataW H × List MemPlace), DataW.trod enc P w 0 (fun _ => true) true n e [v] = some y → ∃ p, v = f p ∧ G p)
    (h : DataW.trod enc P w 0 (fun _ => true) true fuel t cs = some x) :
    ∃ (A : Option Addr) (n c : Nat) (l : List α), cs = [.slice A n c] ∧ n ≤ c ∧ c ≤ maxLen ∧ l.length = n ∧ Rd w 0 w.heap.size 1 A n (rows (fun p => [f p]) l) ∧ ∀ p ∈ l, G p := by
  rcases open_slice1 ht hc h with ⟨hcs, _⟩ | ⟨a, len, cap, m, n, V, D, Pl, rfl, _, hlc, hcm, hmm, _, hx⟩
  · exact ⟨none, 0, 0, [], hcs, Nat.le_refl _, Nat.zero_le _, rfl, Rd.nil _ _ _ _ _, fun p hp => by cases hp⟩
  · simp only [if_true] at hmm
    subst hmm
    obtain ⟨l, hl, hr, hG⟩ := open_rows (f := fun p => [f p]) (m := 1) (n := len) (fun _ => rfl) (by omega) G a (fun i hi => by
      obtain ⟨hcell, htr⟩ := hx i (by omega)
      obtain ⟨p, hp, hg⟩ := hel _ _ _ htr
      refine ⟨p, hg, fun j u hu => ?_⟩
      match j, hu with
      | 0, hu => obtain rfl := Option.some.inj hu; rw [Nat.mul_one, Nat.add_zero, ← hp]; exact hcell
      | _ + 1, hu => simp at hu)
    exact ⟨some a, len, _, l, rfl, hlc, hcm, hl, hr, hG⟩

/-- A slice of slices of one-cell elements. -/
theorem open2 {H : Type} {enc : TypeId × Value → H} {P : Program} {w : World} {t e q : TypeId} {fuel : Nat} {cs : List Value} {x : DataW H × List MemPlace} {α : Type} (f : α → Value) (G : α → Prop)
    (ht : P.underlying t = some (.slice e)) (hc : P.cellsOf e = 1) (he : P.underlying e = some (.slice q)) (hq : P.cellsOf q = 1)
    (hel : ∀ (v : Value) (n : Nat) (y : DataW H × List MemPlace), DataW.trod enc P w 0 (fun _ => true) true n q [v] = some y → ∃ p, v = f p ∧ G p)
    (h : DataW.trod enc P w 0 (fun _ => true) true fuel t cs = some x) :
    ∃ (A : Option Addr) (n c : Nat) (l : List (List α)), cs = [.slice A n c] ∧ n ≤ c ∧ c ≤ maxLen ∧ RdSS w 0 w.heap.size A n (l.map (rows fun p => [f p])) ∧ ∀ r ∈ l, ∀ p ∈ r, G p := by
  obtain ⟨A, n, c, l, hcs, hnc, hcm, hl, hr, hG⟩ := open1 (α := Value × List α) (fun p => p.1) (fun p => (∃ Ai ni ci, p.1 = .slice Ai ni ci ∧ ni ≤ maxLen ∧ Rd w 0 w.heap.size 1 Ai ni (rows (fun p => [f p]) p.2)) ∧ ∀ z ∈ p.2, G z) ht hc
    (fun v m y hv => by
      obtain ⟨Ai, ni, ci, r, hvs, h1, h2, h3, h4, h5⟩ := open1 f G he hq hel hv
      exact ⟨(v, r), rfl, ⟨Ai, ni, ci, by simpa using hvs, Nat.le_trans h1 h2, h4⟩, h5⟩) h
  refine ⟨A, n, c, l.map (·.2), hcs, hnc, hcm, ⟨_, hr, by simp [hl], fun i hi => ?_⟩, fun r hr p hp => ?_⟩
  · have hil : i < l.length := by simpa using hi
    obtain ⟨⟨Ai, ni, ci, e1, e2, e3⟩, _⟩ := hG _ (List.getElem_mem hil)
    refine ⟨Ai, ni, ci, ?_, e2, by simpa using e3⟩
    have := rows_at (f := fun p : Value × List α => [p.1]) (m := 1) (fun _ => rfl) l i hil 0 (by omega)
    rw [Nat.mul_one, Nat.add_zero] at this
    rw [this, ← e1]
    rfl
  · obtain ⟨y, hy, rfl⟩ := List.mem_map.1 hr
    exact (hG y hy).2 p hp

end Go.Proofs.YtajjophmngabbaaGreatDoor
