/-
  ROUTES IN BOTH DIRECTIONS, lengths that are counted, the farthest state: what the law on routes asks. Plain, no condition but those that each theorem names.
-/
import Derived.Test.YtnbahmjimnhfbaaDoorBfs4
import Derived.Test.YtnbahmjimnhfbaaDoorRl
import Derived.Test.YtnbahmjimnhfbaaDoorFr
import Derived.Test.YtnbahmjimnhfbaaDoorFar
import Derived.Test.YtnbahmjimnhfbaaDoorChk
namespace Go.Proofs.YtnbahmjimnhfbaaDoor
open Go.RowKit
set_option linter.unusedVariables false
set_option linter.unusedSimpArgs false

theorem code_two {T : List (List Bool)} {a b c d : Int} (ok : okT T = true) (ha : dirOk a) (hb : dirOk b) (hc : dirOk c) (hd : dirOk d) : codeL T [[a, b], [c, d]] = if tg T a b = true ∨ tg T c d = true then 10 else 0 := by
  have := inR_mk ha.1 ha.2
  have := inR_mk hb.1 hb.2
  have := inR_mk hc.1 hc.2
  have := inR_mk hd.1 hd.2
  simp [codeL, ok, stV, hit, *]
theorem code_one {T : List (List Bool)} {a b : Int} (ok : okT T = true) (ha : dirOk a) (hb : dirOk b) : codeL T [[a, b]] = if tg T a b = true then 10 else 0 := by
  have := inR_mk ha.1 ha.2
  have := inR_mk hb.1 hb.2
  simp [codeL, ok, stV, hit, *]
theorem rlN_eq (T : List (List Bool)) (a b c d : Int) : rlN T [a, b] [c, d] = dget (lens T (a, b)) c d := by
  unfold rlN; simp only [List.getD_cons_zero, List.getD_cons_succ]
theorem frN_eq (T : List (List Bool)) (a b c d : Int) : frN T [a, b] [c, d] = dget (lens T (c, d)) a b := by
  unfold frN; simp only [List.getD_cons_zero, List.getD_cons_succ]
theorem rt_codes {T : List (List Bool)} {a b c d : Int} (ok : okT T = true) (ha : dirOk a) (hb : dirOk b) (hc : dirOk c) (hd : dirOk d) :
    (rlP T [a, b] [c, d]).2 = frC T [a, b] [c, d] ∧ (rlP T [c, d] [a, b]).2 = frC T [a, b] [c, d] ∧ (rlP T [a, b] [c, d]).1 = (rlP T [c, d] [a, b]).1 := by
  have e := lens_sym T (p := (a, b)) (q := (c, d)) ⟨ha, hb⟩ ⟨hc, hd⟩
  have e1 := rlN_eq T a b c d
  have e2 := rlN_eq T c d a b
  have e3 := frN_eq T a b c d
  have c1 := code_two ok ha hb hc hd
  have c2 := code_two ok hc hd ha hb
  have c3 : codeL T [[c, d], [a, b]] = codeL T [[a, b], [c, d]] := by rw [c1, c2]; simp only [or_comm]
  simp only at e
  unfold rlP frC
  rw [c3, e1, e2, e3, e]
  generalize dget (lens T (c, d)) a b = n
  generalize codeL T [[a, b], [c, d]] = k
  split
  · split <;> exact ⟨rfl, rfl, rfl⟩
  · exact ⟨rfl, rfl, rfl⟩
theorem rt_bad {T : List (List Bool)} {a b c d : Int} (ok : okT T = true) (ha : dirOk a) (hb : dirOk b) (hc : dirOk c) (hd : dirOk d) (h : frC T [a, b] [c, d] ≠ 0) :
    frC T [a, b] [c, d] = 3 ∨ frC T [a, b] [c, d] = 10 ∧ (tg T a b = true ∨ tg T c d = true) := by
  have c1 := code_two ok ha hb hc hd
  unfold frC at *
  by_cases hk : codeL T [[a, b], [c, d]] = 0
  · rw [if_pos hk] at h ⊢
    split at h
    · left; rw [if_pos (by assumption)]
    · exact absurd rfl h
  · rw [if_neg hk] at h ⊢
    rw [c1] at h hk ⊢
    split at h
    · right; rename_i q; rw [if_pos q]; exact ⟨rfl, q⟩
    · exact absurd rfl h
theorem rt_good {T : List (List Bool)} {a b c d : Int} (ok : okT T = true) (ha : dirOk a) (hb : dirOk b) (hc : dirOk c) (hd : dirOk d) (h : frC T [a, b] [c, d] = 0) :
    ∃ N : Nat, N < 576 ∧ tg T a b = false ∧ tg T c d = false ∧ (rlP T [a, b] [c, d]).1 = N ∧ dget (lens T (a, b)) c d = N ∧ dget (lens T (c, d)) a b = N ∧ frL T [a, b] [c, d] = rtTo T (lens T (c, d)) (a, b) (N + 1) := by
  have e := lens_sym T (p := (a, b)) (q := (c, d)) ⟨ha, hb⟩ ⟨hc, hd⟩
  have bd := lens_bd T (p := (c, d)) (c := a) (d := b) ⟨hc, hd⟩ ha hb
  have e1 := rlN_eq T a b c d
  have e3 := frN_eq T a b c d
  have c1 := code_two ok ha hb hc hd
  simp only at e
  by_cases hk : codeL T [[a, b], [c, d]] = 0
  · by_cases hn : frN T [a, b] [c, d] < 0
    · unfold frC at h; rw [if_pos hk, if_pos hn] at h; exact absurd h (by decide)
    · have hn2 : ¬ (rlN T [a, b] [c, d] < 0) := by rw [e1, e]; rw [e3] at hn; exact hn
      have hf : ¬ (tg T a b = true ∨ tg T c d = true) := by
        intro q; rw [c1, if_pos q] at hk; exact absurd hk (by decide)
      rw [not_or] at hf
      have e4 : frL T [a, b] [c, d] = rtTo T (lens T (c, d)) (a, b) ((frN T [a, b] [c, d]).toNat + 1) := by
        unfold frL
        rw [if_pos hk, if_neg hn]
        simp only [List.getD_cons_zero, List.getD_cons_succ]
      have e5 : (rlP T [a, b] [c, d]).1 = rlN T [a, b] [c, d] := by unfold rlP; rw [if_pos hk, if_neg hn2]
      rw [e3] at hn e4
      refine ⟨(dget (lens T (c, d)) a b).toNat, by omega, by simpa using hf.1, by simpa using hf.2, ?_, ?_, by omega, e4⟩
      · rw [e5, e1, e]; omega
      · rw [e]; omega
  · unfold frC at h; rw [if_neg hk] at h; exact absurd h hk
/-- The states of the route that is found. -/
theorem rt_row {T : List (List Bool)} {a b c d : Int} (ha : dirOk a) (hb : dirOk b) (hc : dirOk c) (hd : dirOk d) {N : Nat} (hf : tg T c d = false) (hN : dget (lens T (c, d)) a b = N) {i : Nat} (hi : i ≤ N) :
    ∃ x y : Int, (rtTo T (lens T (c, d)) (a, b) (N + 1)).getD i [] = [x, y] ∧ rtAt T (lens T (c, d)) (a, b) i = (x, y) ∧ dirOk x ∧ dirOk y ∧ tg T x y = false := by
  have hq : stOk (c, d) := ⟨hc, hd⟩
  obtain ⟨s1, s2⟩ := rt_ok T (p := (c, d)) (q := (a, b)) hq ⟨ha, hb⟩ i (by simp only; omega)
  have fr := lens_free hq s1 hf (by rw [s2]; simp only; omega)
  refine ⟨(rtAt T (lens T (c, d)) (a, b) i).1, (rtAt T (lens T (c, d)) (a, b) i).2, ?_, rfl, s1.1, s1.2, fr⟩
  unfold rtTo
  have hlt : i < N + 1 := by omega
  simp [List.getD, hlt, pr2]
theorem rt_step {T : List (List Bool)} {a b c d : Int} (ha : dirOk a) (hb : dirOk b) (hc : dirOk c) (hd : dirOk d) {N : Nat} (hN : dget (lens T (c, d)) a b = N) {i : Nat} (hi : i < N) {x y z u : Int} (h1 : rtAt T (lens T (c, d)) (a, b) i = (x, y)) (h2 : rtAt T (lens T (c, d)) (a, b) (i + 1) = (z, u)) : stp T x y z u = true := by
  obtain ⟨k, hk, e, _, _⟩ := rt_next T (p := (c, d)) (q := (a, b)) ⟨hc, hd⟩ ⟨ha, hb⟩ i (by simp only; omega)
  have := (nxt_ok (List.getElem_mem hk)).2
  rw [e, h1, h2] at this
  exact this
theorem rt_first {T : List (List Bool)} (D : List (List Int)) (q : Int × Int) : rtAt T D q 0 = q := rfl
theorem rt_last {T : List (List Bool)} {a b c d : Int} (ha : dirOk a) (hb : dirOk b) (hc : dirOk c) (hd : dirOk d) {N : Nat} (hN : dget (lens T (c, d)) a b = N) : rtAt T (lens T (c, d)) (a, b) N = (c, d) := by
  obtain ⟨s1, s2⟩ := rt_ok T (p := (c, d)) (q := (a, b)) ⟨hc, hd⟩ ⟨ha, hb⟩ N (by simp only; omega)
  exact lens_zero ⟨hc, hd⟩ s1 (by rw [s2]; simp only; omega)
theorem rt_check {T : List (List Bool)} {a b c d : Int} (ok : okT T = true) (ha : dirOk a) (hb : dirOk b) (hc : dirOk c) (hd : dirOk d) {N : Nat} (h5 : N < 576) (hf : tg T c d = false) (hN : dget (lens T (c, d)) a b = N) : crP T (rtTo T (lens T (c, d)) (a, b) (N + 1)) = (-1, 0) := by
  have hl : (rtTo T (lens T (c, d)) (a, b) (N + 1)).length = N + 1 := rtTo_len _ _ _ _
  have key : ∀ i, i < (rtTo T (lens T (c, d)) (a, b) (N + 1)).length → crOk T (rtTo T (lens T (c, d)) (a, b) (N + 1)) i = true := by
    intro i hi
    rw [hl] at hi
    obtain ⟨x, y, e1, e2, hx, hy, e3⟩ := rt_row ha hb hc hd hf hN (show i ≤ N by omega)
    have hv : stV [x, y] = true := by rw [stV_pair, inR_mk hx.1 hx.2, inR_mk hy.1 hy.2]; rfl
    have k1 : r0 (rtTo T (lens T (c, d)) (a, b) (N + 1)) i = x := by unfold r0; rw [e1]; rfl
    have k2 : r1 (rtTo T (lens T (c, d)) (a, b) (N + 1)) i = y := by unfold r1; rw [e1]; rfl
    unfold crOk
    rw [e1, hv, k1, k2, e3]
    by_cases h0 : i = 0
    · simp [h0]
    · obtain ⟨z, u, f1, f2, hz, hu, f3⟩ := rt_row ha hb hc hd hf hN (show i - 1 ≤ N by omega)
      have j1 : r0 (rtTo T (lens T (c, d)) (a, b) (N + 1)) (i - 1) = z := by unfold r0; rw [f1]; rfl
      have j2 : r1 (rtTo T (lens T (c, d)) (a, b) (N + 1)) (i - 1) = u := by unfold r1; rw [f1]; rfl
      have e2' : rtAt T (lens T (c, d)) (a, b) (i - 1 + 1) = (x, y) := by rw [show i - 1 + 1 = i by omega]; exact e2
      have st := rt_step ha hb hc hd hN (show i - 1 < N by omega) f2 e2'
      rw [j1, j2, st]
      simp
  unfold crP
  rw [if_pos ok, hl, inR_mk (by omega) (by omega), if_pos rfl, crV_end key]
/-- The farthest state. -/
theorem farStep_max (D : List (List Int)) (a j : Nat) (s : (Int × Int) × Int) : (farStep D a j s).2 = max s.2 (dget D a j) := by
  unfold farStep
  split
  · show dget D a j = max s.2 (dget D a j); omega
  · show s.2 = max s.2 (dget D a j); omega
def FarP (D : List (List Int)) (s : (Int × Int) × Int) : Prop := -1 ≤ s.2 ∧ (0 ≤ s.2 → dirOk s.1.1 ∧ dirOk s.1.2 ∧ dget D s.1.1 s.1.2 = s.2)
theorem farP_step {D : List (List Int)} {a j : Nat} {s : (Int × Int) × Int} (h : FarP D s) (ha : a < 24) (hj : j < 24) : FarP D (farStep D a j s) := by
  unfold farStep
  split
  · rename_i q
    refine ⟨?_, fun _ => ⟨?_, ?_, rfl⟩⟩
    · have := h.1; show -1 ≤ dget D a j; omega
    · exact ⟨by show (0 : Int) ≤ (a : Int); omega, by show (a : Int) ≤ 23; omega⟩
    · exact ⟨by show (0 : Int) ≤ (j : Int); omega, by show (j : Int) ≤ 23; omega⟩
  · exact h
theorem farP_in {D : List (List Int)} {a : Nat} {s : (Int × Int) × Int} (h : FarP D s) (ha : a < 24) : ∀ j : Nat, j ≤ 24 → FarP D (farIn D a s j)
  | 0, _ => h
  | j + 1, hj => farP_step (farP_in h ha j (by omega)) ha (by omega)
theorem farP_to (D : List (List Int)) : ∀ k : Nat, k ≤ 24 → FarP D (farTo D k)
  | 0, _ => ⟨by show (-1 : Int) ≤ -1; omega, fun h => absurd (show (0 : Int) ≤ -1 from h) (by omega)⟩
  | k + 1, hk => farP_in (farP_to D k (by omega)) (by omega) 24 (by omega)
theorem farIn_ge (D : List (List Int)) (a : Nat) (s : (Int × Int) × Int) : ∀ j : Nat, s.2 ≤ (farIn D a s j).2 ∧ ∀ i : Nat, i < j → dget D a i ≤ (farIn D a s j).2
  | 0 => ⟨Int.le_refl _, fun i hi => absurd hi (by omega)⟩
  | j + 1 => by
    obtain ⟨h1, h2⟩ := farIn_ge D a s j
    have e : (farIn D a s (j + 1)).2 = max (farIn D a s j).2 (dget D a j) := farStep_max D a j _
    rw [e]
    refine ⟨by omega, fun i hi => ?_⟩
    by_cases q : i = j
    · subst q; omega
    · have := h2 i (by omega); omega
theorem farTo_ge (D : List (List Int)) : ∀ k : Nat, ∀ a j : Nat, a < k → j < 24 → dget D a j ≤ (farTo D k).2
  | 0, a, j, ha, _ => absurd ha (by omega)
  | k + 1, a, j, ha, hj => by
    obtain ⟨h1, h2⟩ := farIn_ge D k (farTo D k) 24
    show dget D a j ≤ (farIn D k (farTo D k) 24).2
    by_cases q : a = k
    · subst q; exact h2 j hj
    · have := farTo_ge D k a j (by omega) hj; omega
/-- What the farthest state's length is, beside the greatest of all lengths. -/
theorem far_all {T : List (List Bool)} {a b : Int} (ha : dirOk a) (hb : dirOk b) :
    0 ≤ (farTo (lens T (a, b)) 24).2 ∧ dirOk (farTo (lens T (a, b)) 24).1.1 ∧ dirOk (farTo (lens T (a, b)) 24).1.2 ∧ dget (lens T (a, b)) (farTo (lens T (a, b)) 24).1.1 (farTo (lens T (a, b)) 24).1.2 = (farTo (lens T (a, b)) 24).2 := by
  have h0 := lens_start T (p := (a, b)) ⟨ha, hb⟩
  obtain ⟨ha0, ha1⟩ := ha
  obtain ⟨hb0, hb1⟩ := hb
  obtain ⟨ka, rfl⟩ : ∃ k : Nat, a = k := ⟨a.toNat, by omega⟩
  obtain ⟨kb, rfl⟩ : ∃ k : Nat, b = k := ⟨b.toNat, by omega⟩
  have g := farTo_ge (lens T ((ka : Int), (kb : Int))) 24 ka kb (by omega) (by omega)
  simp only at h0
  have h1 : 0 ≤ (farTo (lens T ((ka : Int), (kb : Int))) 24).2 := by omega
  exact ⟨h1, (farP_to _ 24 (Nat.le_refl _)).2 h1⟩
end Go.Proofs.YtnbahmjimnhfbaaDoor
