/-
  THE SEARCH FOR SHORTEST ROUTES, as plain lists: neighbours of a state, lengths from a state. No program here, and no condition but those that each theorem names.
-/
import Derived.Test.YtoklcjpokffocaaTab
namespace Go.Proofs.Ytoklcjpokffocaa
open Go.RowKit

/-- All directions. -/
def dirs : List Int := (List.range 24).map fun (i : Nat) => (i : Int)
/-- Is a direction one step or none away from another one? -/
def near (a c : Int) : Bool := decide (siz (trn a c) ≤ 1)
/-- Is a step between two states allowed? -/
def stp (T : List (List Bool)) (a b c d : Int) : Bool := near a c && near b d && !(a == c && b == d) && !tg T a b && !tg T c d && !tg T a d && !tg T c b
/-- The states to which an allowed step leads. -/
def nxt (T : List (List Bool)) (a b : Int) : List (Int × Int) := dirs.flatMap fun c => (dirs.filter fun d => stp T a b c d).map fun d => (c, d)

def dget (D : List (List Int)) (a b : Int) : Int := (D.getD a.toNat []).getD b.toNat 0
def dset (D : List (List Int)) (a b x : Int) : List (List Int) := D.set a.toNat ((D.getD a.toNat []).set b.toNat x)
/-- 24 rows of 24 numbers. -/
def OkD (D : List (List Int)) : Prop := D.length = 24 ∧ ∀ k, k < 24 → (D.getD k []).length = 24
/-- How many entries are negative. -/
def neg (D : List (List Int)) : Nat := (D.map fun r => r.countP fun y => decide (y < 0)).sum
def dirOk (a : Int) : Prop := 0 ≤ a ∧ a ≤ 23
def stOk (p : Int × Int) : Prop := dirOk p.1 ∧ dirOk p.2

/-- A state is visited: where it has no length yet, it gets one, and is put to the queue. -/
def visit (s : List (List Int) × List (Int × Int)) (x : Int) (p : Int × Int) : List (List Int) × List (Int × Int) :=
  if dget s.1 p.1 p.2 < 0 then (dset s.1 p.1 p.2 x, s.2 ++ [p]) else s
def expand (T : List (List Bool)) (s : List (List Int) × List (Int × Int)) (p : Int × Int) : List (List Int) × List (Int × Int) :=
  (nxt T p.1 p.2).foldl (fun s q => visit s (dget s.1 p.1 p.2 + 1) q) s
def blank : List (List Int) := List.replicate 24 (List.replicate 24 (-1))
/-- The search behind the first k states of the queue. -/
def run (T : List (List Bool)) (p : Int × Int) : Nat → List (List Int) × List (Int × Int)
  | 0 => (dset blank p.1 p.2 0, [p])
  | k + 1 => match (run T p k).2[k]? with
    | some q => expand T (run T p k) q
    | none => run T p k
/-- The lengths of shortest routes from a state; -1 where there is none. -/
def lens (T : List (List Bool)) (p : Int × Int) : List (List Int) := (run T p 576).1

theorem mem_dirs {a : Int} : a ∈ dirs ↔ dirOk a := by
  unfold dirs dirOk
  simp only [List.mem_map, List.mem_range]
  constructor
  · rintro ⟨i, hi, rfl⟩; omega
  · rintro ⟨h1, h2⟩; exact ⟨a.toNat, by omega, by omega⟩
theorem nxt_ok {T : List (List Bool)} {a b : Int} {q : Int × Int} (h : q ∈ nxt T a b) : stOk q ∧ stp T a b q.1 q.2 = true := by
  unfold nxt at h
  simp only [List.mem_flatMap, List.mem_map, List.mem_filter] at h
  obtain ⟨c, hc, d, ⟨hd, hs⟩, rfl⟩ := h
  exact ⟨⟨mem_dirs.1 hc, mem_dirs.1 hd⟩, hs⟩
theorem nxt_mem {T : List (List Bool)} {a b c d : Int} (h1 : dirOk c) (h2 : dirOk d) (h : stp T a b c d = true) : (c, d) ∈ nxt T a b := by
  unfold nxt
  simp only [List.mem_flatMap, List.mem_map, List.mem_filter]
  exact ⟨c, mem_dirs.2 h1, d, ⟨mem_dirs.2 h2, h⟩, rfl⟩

theorem sum_set (l : List Nat) (i : Nat) (h : i < l.length) (x : Nat) : (l.set i x).sum + l[i] = l.sum + x := by
  induction l generalizing i with
  | nil => simp at h
  | cons a l ih =>
    cases i with
    | zero => simp; omega
    | succ i =>
      have := ih i (by simpa using h)
      simp only [List.set_cons_succ, List.sum_cons, List.getElem_cons_succ]
      omega
theorem countP_set (p : Int → Bool) (l : List Int) (i : Nat) (h : i < l.length) (x : Int) : (l.set i x).countP p + (if p l[i] then 1 else 0) = l.countP p + (if p x then 1 else 0) := by
  induction l generalizing i with
  | nil => simp at h
  | cons a l ih =>
    cases i with
    | zero => simp only [List.set_cons_zero, List.countP_cons, List.getElem_cons_zero]; omega
    | succ i =>
      have := ih i (by simpa using h)
      simp only [List.set_cons_succ, List.countP_cons, List.getElem_cons_succ]
      omega
theorem OkD.set {D : List (List Int)} (h : OkD D) (a b x : Int) : OkD (dset D a b x) := by
  refine ⟨by simp [dset, h.1], fun k hk => ?_⟩
  unfold dset
  by_cases e : a.toNat = k
  · subst e
    have hl : a.toNat < D.length := by rw [h.1]; exact hk
    simp only [List.getD, List.getElem?_set_self hl, Option.getD_some, List.length_set]
    exact h.2 _ hk
  · simp only [List.getD, List.getElem?_set_ne e]
    exact h.2 k hk
theorem dget_dset {D : List (List Int)} (h : OkD D) {a b c d x : Int} (ha : dirOk a) (hb : dirOk b) (hc : dirOk c) (hd : dirOk d) : dget (dset D a b x) c d = if a = c ∧ b = d then x else dget D c d := by
  unfold dirOk at *
  have hl : a.toNat < D.length := by rw [h.1]; omega
  have hr : (D.getD a.toNat []).length = 24 := h.2 _ (by omega)
  unfold dget dset
  by_cases e : a = c
  · subst e
    simp only [List.getD] at hr ⊢
    simp only [List.getElem?_set_self hl, Option.getD_some]
    by_cases e2 : b = d
    · subst e2
      rw [List.getElem?_set_self (by rw [hr]; omega)]
      simp
    · rw [List.getElem?_set_ne (by omega)]
      simp [e2]
  · have : a.toNat ≠ c.toNat := by omega
    simp only [List.getD, List.getElem?_set_ne this]
    simp [e]
theorem neg_dset {D : List (List Int)} (h : OkD D) {a b x : Int} (ha : dirOk a) (hb : dirOk b) (hn : dget D a b < 0) (hx : 0 ≤ x) : neg (dset D a b x) + 1 = neg D := by
  unfold dirOk at ha hb
  have hl : a.toNat < D.length := by rw [h.1]; omega
  have hr : (D.getD a.toNat []).length = 24 := h.2 _ (by omega)
  unfold dget at hn
  unfold neg dset
  rw [List.map_set]
  have e1 : D.getD a.toNat [] = D[a.toNat] := by simp [List.getD, hl]
  rw [e1] at hn hr ⊢
  have hbl : b.toNat < (D[a.toNat]).length := by rw [hr]; omega
  have e2 : (D[a.toNat]).getD b.toNat 0 = (D[a.toNat])[b.toNat] := by simp [List.getD, hbl]
  rw [e2] at hn
  have s := sum_set (D.map fun r => r.countP fun y => decide (y < 0)) a.toNat (by simpa using hl) (((D[a.toNat]).set b.toNat x).countP fun y => decide (y < 0))
  have c := countP_set (fun y => decide (y < 0)) (D[a.toNat]) b.toNat hbl x
  simp only [List.getElem_map] at s
  simp only [decide_eq_true_eq, hn, if_true, show ¬ x < 0 by omega, if_false, Nat.add_zero] at c
  omega

/-- What holds of the search at every step: as many states in the queue as lengths are known; every state in it is one, and has a length. -/
structure Inv (s : List (List Int) × List (Int × Int)) : Prop where
  ok : OkD s.1
  cnt : s.2.length + neg s.1 = 576
  st : ∀ q ∈ s.2, stOk q ∧ 0 ≤ dget s.1 q.1 q.2
  bd : ∀ c d, dirOk c → dirOk d → -1 ≤ dget s.1 c d ∧ dget s.1 c d < s.2.length
theorem rep_getD {α : Type} (n k : Nat) (x d : α) (h : k < n) : (List.replicate n x).getD k d = x := by simp [List.getD, h]
theorem blank_ok : OkD blank := by
  refine ⟨rfl, fun k hk => ?_⟩
  unfold blank
  rw [rep_getD 24 k _ _ hk]
  exact List.length_replicate
theorem dget_blank {a b : Int} (ha : dirOk a) (hb : dirOk b) : dget blank a b = -1 := by
  unfold dirOk at ha hb
  unfold dget blank
  rw [rep_getD 24 a.toNat _ _ (by omega), rep_getD 24 b.toNat _ _ (by omega)]
theorem inv_start {p : Int × Int} (hp : stOk p) : Inv (dset blank p.1 p.2 0, [p]) := by
  refine ⟨blank_ok.set _ _ _, ?_, fun q hq => ?_, fun c d hc hd => ?_⟩
  · have h := neg_dset blank_ok hp.1 hp.2 (x := 0) (by rw [dget_blank hp.1 hp.2]; omega) (Int.le_refl 0)
    have h2 : neg blank = 576 := by decide
    simp only [List.length_singleton]
    omega
  · obtain rfl : q = p := by simpa using hq
    refine ⟨hp, ?_⟩
    rw [dget_dset blank_ok hp.1 hp.2 hp.1 hp.2]
    simp
  · rw [dget_dset blank_ok hp.1 hp.2 hc hd]
    split
    · simp
    · rw [dget_blank hc hd]; simp
theorem Inv.visit {s : List (List Int) × List (Int × Int)} (h : Inv s) {x : Int} {q : Int × Int} (hq : stOk q) (hx : 0 ≤ x) (hx2 : x ≤ s.2.length) : Inv (visit s x q) := by
  unfold Go.Proofs.Ytoklcjpokffocaa.visit
  split
  · rename_i hn
    have hneg := neg_dset h.ok hq.1 hq.2 (x := x) hn hx
    refine ⟨h.ok.set _ _ _, by have := h.cnt; simp only [List.length_append, List.length_singleton]; omega, fun r hr => ?_, fun c d hc hd => ?_⟩
    · rcases List.mem_append.1 hr with hr | hr
      · obtain ⟨h1, h2⟩ := h.st r hr
        refine ⟨h1, ?_⟩
        show 0 ≤ dget (dset s.1 q.1 q.2 x) r.1 r.2
        rw [dget_dset h.ok hq.1 hq.2 h1.1 h1.2]
        split <;> assumption
      · obtain rfl : r = q := by simpa using hr
        refine ⟨hq, ?_⟩
        show 0 ≤ dget (dset s.1 r.1 r.2 x) r.1 r.2
        rw [dget_dset h.ok hq.1 hq.2 hq.1 hq.2]
        simpa using hx
    · show -1 ≤ dget (dset s.1 q.1 q.2 x) c d ∧ dget (dset s.1 q.1 q.2 x) c d < _
      rw [dget_dset h.ok hq.1 hq.2 hc hd]
      have := h.bd c d hc hd
      simp only [List.length_append, List.length_singleton]
      split <;> omega
  · exact h
theorem visit_keeps {s : List (List Int) × List (Int × Int)} (h : Inv s) {x : Int} {q r : Int × Int} (hq : stOk q) (hr : stOk r) (hp : 0 ≤ dget s.1 r.1 r.2) : dget (visit s x q).1 r.1 r.2 = dget s.1 r.1 r.2 := by
  unfold visit
  split
  · rename_i hn
    show dget (dset s.1 q.1 q.2 x) r.1 r.2 = _
    rw [dget_dset h.ok hq.1 hq.2 hr.1 hr.2, if_neg]
    rintro ⟨e1, e2⟩
    rw [e1, e2] at hn
    omega
  · rfl
theorem visit_prefix (s : List (List Int) × List (Int × Int)) (x : Int) (q : Int × Int) : ∃ t, (visit s x q).2 = s.2 ++ t := by
  unfold visit
  split
  · exact ⟨[q], rfl⟩
  · exact ⟨[], by simp⟩
/-- The search behind the first k neighbours of a state. -/
def expandTo (T : List (List Bool)) (s : List (List Int) × List (Int × Int)) (p : Int × Int) (k : Nat) : List (List Int) × List (Int × Int) :=
  ((nxt T p.1 p.2).take k).foldl (fun s q => visit s (dget s.1 p.1 p.2 + 1) q) s
theorem expandTo_succ (T : List (List Bool)) (s : List (List Int) × List (Int × Int)) (p : Int × Int) (k : Nat) (h : k < (nxt T p.1 p.2).length) :
    expandTo T s p (k + 1) = visit (expandTo T s p k) (dget (expandTo T s p k).1 p.1 p.2 + 1) (nxt T p.1 p.2)[k] := by
  unfold expandTo
  rw [List.take_succ_eq_append_getElem h, List.foldl_append]
  rfl
theorem expandTo_all (T : List (List Bool)) (s : List (List Int) × List (Int × Int)) (p : Int × Int) (k : Nat) (h : (nxt T p.1 p.2).length ≤ k) : expandTo T s p k = expand T s p := by
  unfold expandTo expand
  rw [List.take_of_length_le h]
theorem expandTo_inv {T : List (List Bool)} {s : List (List Int) × List (Int × Int)} {p : Int × Int} (hs : Inv s) (hp : p ∈ s.2) (k : Nat) :
    Inv (expandTo T s p k) ∧ dget (expandTo T s p k).1 p.1 p.2 = dget s.1 p.1 p.2 ∧ ∃ t, (expandTo T s p k).2 = s.2 ++ t := by
  induction k with
  | zero => exact ⟨by simpa [expandTo] using hs, by simp [expandTo], [], by simp [expandTo]⟩
  | succ k ih =>
    rcases Nat.lt_or_ge k (nxt T p.1 p.2).length with h | h
    · rw [expandTo_succ T s p k h]
      obtain ⟨h1, h2, t, h3⟩ := ih
      have hq := (nxt_ok (List.getElem_mem h)).1
      obtain ⟨hps, hp0⟩ := hs.st p hp
      have hb := h1.bd p.1 p.2 hps.1 hps.2
      refine ⟨h1.visit hq (by omega) (by omega), ?_, ?_⟩
      · rw [visit_keeps h1 hq hps (by omega), h2]
      · obtain ⟨t', ht'⟩ := visit_prefix (expandTo T s p k) (dget (expandTo T s p k).1 p.1 p.2 + 1) (nxt T p.1 p.2)[k]
        exact ⟨t ++ t', by rw [ht', h3, List.append_assoc]⟩
    · rw [expandTo_all T s p (k + 1) (by omega), ← expandTo_all T s p k h]
      exact ih
theorem expand_inv {T : List (List Bool)} {s : List (List Int) × List (Int × Int)} {p : Int × Int} (hs : Inv s) (hp : p ∈ s.2) :
    Inv (expand T s p) ∧ dget (expand T s p).1 p.1 p.2 = dget s.1 p.1 p.2 ∧ ∃ t, (expand T s p).2 = s.2 ++ t := by
  rw [← expandTo_all T s p _ (Nat.le_refl _)]
  exact expandTo_inv hs hp _
theorem run_inv (T : List (List Bool)) {p : Int × Int} (hp : stOk p) (k : Nat) : Inv (run T p k) := by
  induction k with
  | zero => exact inv_start hp
  | succ k ih =>
    unfold run
    split
    · rename_i q hq
      exact (expand_inv ih (List.mem_of_getElem? hq)).1
    · exact ih
theorem run_succ (T : List (List Bool)) (p : Int × Int) (k : Nat) (h : k < (run T p k).2.length) : run T p (k + 1) = expand T (run T p k) (run T p k).2[k] := by
  rw [run, List.getElem?_eq_getElem h]
/-- Where the queue is used up the search has ended. -/
theorem run_end (T : List (List Bool)) {p : Int × Int} (hp : stOk p) (k : Nat) (h : (run T p k).2.length ≤ k) : (run T p k).1 = lens T p := by
  have stay : ∀ j, k ≤ j → run T p j = run T p k := by
    intro j hj
    induction j with
    | zero => obtain rfl : k = 0 := by omega
              rfl
    | succ j ih =>
      rcases Nat.lt_or_ge j k with h1 | h1
      · obtain rfl : k = j + 1 := by omega
        rfl
      · have e := ih h1
        rw [run, List.getElem?_eq_none (by rw [e]; omega)]
        exact e
  have hle : k ≤ 576 ∨ 576 < k := by omega
  rcases hle with h1 | h1
  · unfold lens; rw [stay 576 h1]
  · have hi := (run_inv T hp 576).cnt
    have stay2 : ∀ j, 576 ≤ j → run T p j = run T p 576 := by
      intro j hj
      induction j with
      | zero => omega
      | succ j ih =>
        rcases Nat.lt_or_ge j 576 with h2 | h2
        · obtain rfl : j = 575 := by omega
          rfl
        · have e := ih h2
          rw [run, List.getElem?_eq_none (by rw [e]; omega)]
          exact e
    unfold lens; rw [stay2 k (by omega)]
end Go.Proofs.Ytoklcjpokffocaa
