/-
  TEXTS APART AND NUMBERS READ, without the program: parts between bytes, fields, decimals. No condition but those that each theorem names.
-/
import Derived.Lib.ItoaNum
import Derived.Lib.ItoaMem
import Derived.Lib.ItoaLen
import Derived.Lib.Join
import Derived.Lib.ParseIntB
import Derived.Lib.FieldsP
import Derived.Lib.IndexMore
import Derived.Lib.TrimUEq
namespace Go.Proofs.YtclfhegjfjcjeaaDoor
open Go.RowKit
set_option linter.unusedVariables false
set_option linter.unusedSimpArgs false

/-- A piece put ahead of the first part. -/
def hdP (p : List UInt8) : List (List UInt8) → List (List UInt8)
  | [] => [p]
  | x :: r => (p ++ x) :: r
/-- The parts between bytes c. -/
def splitL (c : UInt8) : List UInt8 → List (List UInt8)
  | [] => [[]]
  | b :: l => if b = c then [] :: splitL c l else hdP [b] (splitL c l)
theorem hdP_ne (p : List UInt8) (L : List (List UInt8)) : hdP p L ≠ [] := by cases L <;> simp [hdP]
theorem splitL_ne (c : UInt8) (l : List UInt8) : splitL c l ≠ [] := by
  cases l with
  | nil => simp [splitL]
  | cons b l => unfold splitL; split <;> simp [hdP_ne]
theorem hdP_nil {L : List (List UInt8)} (h : L ≠ []) : hdP [] L = L := by cases L <;> simp_all [hdP]
theorem hdP_hdP (p q : List UInt8) {L : List (List UInt8)} (h : L ≠ []) : hdP p (hdP q L) = hdP (p ++ q) L := by cases L <;> simp_all [hdP]
theorem split_word {c : UInt8} {w rest : List UInt8} (h : c ∉ w) : splitL c (w ++ rest) = hdP w (splitL c rest) := by
  induction w with
  | nil => rw [List.nil_append, hdP_nil (splitL_ne _ _)]
  | cons b w ih =>
    rw [List.cons_append, splitL, if_neg (fun e => h (by simp [e])), ih (fun hc => h (by simp [hc])), hdP_hdP _ _ (splitL_ne _ _)]
    rfl
theorem split_tail {c : UInt8} : ∀ (r : List (List UInt8)) (x : List UInt8), c ∉ x → (∀ w ∈ r, c ∉ w) → splitL c (x ++ Lib.joinTail [c] r) = x :: r := by
  intro r
  induction r with
  | nil => intro x hx _; rw [split_word hx]; simp [Lib.joinTail, splitL, hdP]
  | cons y r ih =>
    intro x hx hr
    have := ih y (hr y (by simp)) (fun w hw => hr w (by simp [hw]))
    rw [split_word hx, show Lib.joinTail [c] (y :: r) = c :: (y ++ Lib.joinTail [c] r) by simp [Lib.joinTail], splitL, if_pos rfl, this]
    simp [hdP]
theorem split_join {c : UInt8} {ws : List (List UInt8)} (h0 : ws ≠ []) (h : ∀ w ∈ ws, c ∉ w) : splitL c (Lib.join ws [c]) = ws := by
  cases ws with
  | nil => exact absurd rfl h0
  | cons x r => rw [Lib.join_cons, split_tail r x (h x (by simp)) (fun w hw => h w (by simp [hw]))]
theorem join_split (c : UInt8) (l : List UInt8) : Lib.join (splitL c l) [c] = l := by
  induction l with
  | nil => simp [splitL, Lib.join_one]
  | cons b l ih =>
    unfold splitL
    have hne := splitL_ne c l
    generalize splitL c l = L at ih hne
    cases L with
    | nil => exact absurd rfl hne
    | cons x r =>
      rw [Lib.join_cons] at ih
      split
      · rename_i e
        rw [Lib.join_cons, ← ih, e]
        simp [Lib.joinTail]
      · rw [hdP, Lib.join_cons, ← ih]
        simp
theorem split_len (c : UInt8) (l : List UInt8) : (splitL c l).length ≤ l.length + 1 := by
  induction l with
  | nil => simp [splitL]
  | cons b l ih =>
    unfold splitL
    split
    · simp; omega
    · have hne := splitL_ne c l
      generalize splitL c l = L at ih hne
      cases L with
      | nil => exact absurd rfl hne
      | cons x r => simp [hdP] at ih ⊢; omega

/-- The fields of a text: what stands between blanks, without what is empty. -/
def fldL (cur : List UInt8) : List UInt8 → List (List UInt8)
  | [] => if cur = [] then [] else [cur]
  | b :: l => if b = 32 then (if cur = [] then fldL [] l else cur :: fldL [] l) else fldL (cur ++ [b]) l
theorem fld_word : ∀ (w cur rest : List UInt8), (32 : UInt8) ∉ w → fldL cur (w ++ rest) = fldL (cur ++ w) rest := by
  intro w
  induction w with
  | nil => intro cur rest _; simp
  | cons b w ih =>
    intro cur rest h
    rw [List.cons_append, fldL, if_neg (fun e => h (by simp [e])), ih _ _ (fun hc => h (by simp [hc]))]
    simp
theorem fld_tail : ∀ (r : List (List UInt8)) (x : List UInt8), x ≠ [] → (∀ w ∈ r, (32 : UInt8) ∉ w ∧ w ≠ []) → fldL x (Lib.joinTail [32] r) = x :: r := by
  intro r
  induction r with
  | nil => intro x hx _; simp [Lib.joinTail, fldL, hx]
  | cons y r ih =>
    intro x hx hr
    obtain ⟨h1, h2⟩ := hr y (by simp)
    have := ih y h2 (fun w hw => hr w (by simp [hw]))
    rw [show Lib.joinTail [32] (y :: r) = 32 :: (y ++ Lib.joinTail [32] r) by simp [Lib.joinTail], fldL, if_pos rfl, if_neg hx, fld_word _ _ _ h1, List.nil_append, this]
theorem fld_join {ws : List (List UInt8)} (h : ∀ w ∈ ws, (32 : UInt8) ∉ w ∧ w ≠ []) : fldL [] (Lib.join ws [32]) = ws := by
  cases ws with
  | nil => simp [Lib.join_nil, fldL]
  | cons x r =>
    obtain ⟨h1, h2⟩ := h x (by simp)
    rw [Lib.join_cons, fld_word _ _ _ h1, List.nil_append, fld_tail r x h2 (fun w hw => h w (by simp [hw]))]

/-- Is a rune a blank? -/
def blank (x : Nat) : Bool := decide (x = 32)
theorem decode_low (s : ByteArray) (pos : Nat) (hp : pos < s.size) (h : ∀ b ∈ s.data.toList, b.toNat < 128) : Utf8.decode s pos = ((s.data.toList[pos]'(by rw [← Lib.size_eq]; exact hp)).toNat, 1) := by
  have hl : pos < s.data.toList.length := by rw [← Lib.size_eq]; exact hp
  rw [Lib.decode_N]
  rw [show s.data.toList.getD pos 0 = s.data.toList[pos] by rw [List.getD_eq_getElem?_getD, List.getElem?_eq_getElem hl]; rfl]
  exact Lib.decodeN_ascii _ _ _ _ _ (h _ (List.getElem_mem hl))
theorem spans_low (s : ByteArray) (hs : ∀ b ∈ s.data.toList, b.toNat < 128) : ∀ (f pos : Nat) (st : Option Nat) (acc : List (Nat × Nat)), s.size ≤ pos + f → pos ≤ s.size → (∀ a, st = some a → a < pos) →
    acc.map (fun p => Lib.pieceU s.data.toList p.1 p.2) ++ fldL (Lib.openPiece s.data.toList st pos) (s.data.toList.drop pos) = (Lib.closeSpans s (Lib.spansFromP blank s f pos st acc)).map (fun p => Lib.pieceU s.data.toList p.1 p.2)
  | 0, pos, st, acc, h, hp, hst => by
    obtain rfl : pos = s.size := by omega
    have hd : s.data.toList.drop s.size = [] := List.drop_eq_nil_of_le (by rw [← Lib.size_eq]; exact Nat.le_refl _)
    rw [hd, fldL]
    cases st with
    | none => simp [Lib.spansFromP, Lib.closeSpans, Lib.openPiece]
    | some a =>
      have := Lib.pieceU_ne s.data.toList a s.size (hst a rfl) (by rw [← Lib.size_eq]; exact Nat.le_refl _)
      simp [Lib.spansFromP, Lib.closeSpans, Lib.openPiece, this]
  | f + 1, pos, st, acc, h, hp, hst => by
    by_cases hlt : pos < s.size
    · have hl : pos < s.data.toList.length := by rw [← Lib.size_eq]; exact hlt
      have hdec := decode_low s pos hlt hs
      have hdrop : s.data.toList.drop pos = s.data.toList[pos] :: s.data.toList.drop (pos + 1) := List.drop_eq_getElem_cons hl
      have hgr : ∀ a, a ≤ pos → Lib.pieceU s.data.toList a pos ++ [s.data.toList[pos]] = Lib.pieceU s.data.toList a (pos + 1) := fun a ha => by
        rw [← Lib.pieceU_grow _ a pos 1 ha, hdrop]
        simp
      unfold Lib.spansFromP
      rw [if_pos hlt, hdec, hdrop, fldL]
      by_cases hb : s.data.toList[pos] = 32
      · rw [if_pos hb, show blank ((s.data.toList[pos]).toNat, 1).1 = true by rw [hb]; rfl, if_pos rfl]
        cases st with
        | none =>
          have ih := spans_low s hs f (pos + 1) none acc (by omega) (by omega) (fun a h => by cases h)
          simpa [Lib.openPiece] using ih
        | some a =>
          have hpn := Lib.pieceU_ne s.data.toList a pos (hst a rfl) (by omega)
          have ih := spans_low s hs f (pos + 1) none (acc ++ [(a, pos)]) (by omega) (by omega) (fun a h => by cases h)
          simpa [Lib.openPiece, hpn] using ih
      · have hbf : blank ((s.data.toList[pos]).toNat, 1).1 = false := by
          refine decide_eq_false fun e => hb ?_
          exact UInt8.toNat_inj.1 e
        rw [if_neg hb, hbf, if_neg (by decide)]
        cases st with
        | none =>
          have ih := spans_low s hs f (pos + 1) (some pos) acc (by omega) (by omega) (fun a h => by cases h; omega)
          have e := hgr pos (Nat.le_refl _)
          rw [show Lib.pieceU s.data.toList pos pos = [] by unfold Lib.pieceU; simp] at e
          simp only [Lib.openPiece] at ih ⊢
          rw [e]
          exact ih
        | some a =>
          have ih := spans_low s hs f (pos + 1) (some a) acc (by omega) (by omega) (fun b h => by cases h; have := hst a rfl; omega)
          have e := hgr a (by have := hst a rfl; omega)
          simp only [Lib.openPiece] at ih ⊢
          rw [e]
          exact ih
    · obtain rfl : pos = s.size := by omega
      rw [Lib.spansFromP_end _ _ _ _ _ _ hlt]
      have := spans_low s hs 0 s.size st acc (by omega) (Nat.le_refl _) hst
      simpa [Lib.spansFromP] using this
theorem fields_low (s : ByteArray) (hs : ∀ b ∈ s.data.toList, b.toNat < 128) : (Lib.goFieldsP blank s).map (fun x => x.data.toList) = fldL [] s.data.toList := by
  have := spans_low s hs s.size 0 none [] (by omega) (Nat.zero_le _) (fun a h => by cases h)
  simp only [List.map_nil, List.nil_append, List.drop_zero, Lib.openPiece] at this
  unfold Lib.goFieldsP Lib.spansOfP
  rw [this, List.map_map]
  refine List.map_congr_left fun x _ => ?_
  exact Lib.extract_data _ _ _
theorem spans_count (p : Nat → Bool) (s : ByteArray) : ∀ (f pos : Nat) (st : Option Nat) (acc : List (Nat × Nat)), (Lib.closeSpans s (Lib.spansFromP p s f pos st acc)).length ≤ acc.length + (if st.isSome then 1 else 0) + (s.size - pos)
  | 0, pos, st, acc => by cases st <;> simp [Lib.spansFromP, Lib.closeSpans] <;> omega
  | f + 1, pos, st, acc => by
    by_cases hlt : pos < s.size
    · have hw := Lib.width_pos s pos
      unfold Lib.spansFromP
      rw [if_pos hlt]
      split
      · cases st with
        | none => have := spans_count p s f (pos + (Utf8.decode s pos).2) none acc; simp at this ⊢; omega
        | some a => have := spans_count p s f (pos + (Utf8.decode s pos).2) none (acc ++ [(a, pos)]); simp at this ⊢; omega
      · cases st with
        | none => have := spans_count p s f (pos + (Utf8.decode s pos).2) (some pos) acc; simp at this ⊢; omega
        | some a => have := spans_count p s f (pos + (Utf8.decode s pos).2) (some a) acc; simp at this ⊢; omega
    · rw [Lib.spansFromP_end _ _ _ _ _ _ hlt]
      cases st <;> simp [Lib.closeSpans] <;> omega
theorem fields_count (p : Nat → Bool) (s : ByteArray) : (Lib.goFieldsP p s).length ≤ s.size := by
  have := spans_count p s s.size 0 none []
  unfold Lib.goFieldsP Lib.spansOfP
  rw [List.length_map]
  simpa using this

/-- strings.Cut at one byte. -/
theorem index_at {c : UInt8} {a b : List UInt8} (h : c ∉ a) : Lib.index (a ++ c :: b) [c] = (a.length : Int) := by
  induction a with
  | nil => simp [Lib.index, List.isPrefixOf]
  | cons x a ih =>
    have hx : c ≠ x := fun e => h (by simp [e])
    have ih := ih (fun hc => h (by simp [hc]))
    rw [List.cons_append, Lib.index, if_neg (by simp [List.isPrefixOf, hx]), ih, if_neg (by simp)]
    simp
theorem cut_at {c : UInt8} {a b : List UInt8} (h : c ∉ a) : Lib.cut (a ++ [c] ++ b) [c] = (a, b, true) := by
  rw [show a ++ [c] ++ b = a ++ c :: b by simp]
  unfold Lib.cut
  rw [index_at h, if_pos (by omega)]
  simp

/-- The value of digits. -/
def stepF (a : Nat) (c : UInt8) : Nat := a * 10 + (c.toNat - 48)
def valF (acc : Nat) (l : List UInt8) : Nat := l.foldl stepF acc
theorem valF_nil (acc : Nat) : valF acc [] = acc := List.foldl_nil
theorem valF_cons (acc : Nat) (c : UInt8) (r : List UInt8) : valF acc (c :: r) = valF (acc * 10 + (c.toNat - 48)) r := List.foldl_cons ..
def digs (l : List UInt8) : Prop := ∀ c ∈ l, 48 ≤ c.toNat ∧ c.toNat ≤ 57
theorem valF_app (acc : Nat) (l m : List UInt8) : valF acc (l ++ m) = valF (valF acc l) m :=
  List.foldl_append ..
theorem valF_le (acc : Nat) (l : List UInt8) : acc ≤ valF acc l := by
  induction l generalizing acc with
  | nil => exact Nat.le_refl _
  | cons c l ih => rw [valF_cons]; exact Nat.le_trans (by omega) (ih _)
theorem valF_lt (acc : Nat) (l : List UInt8) (h : digs l) : valF acc l < (acc + 1) * 10 ^ l.length := by
  induction l generalizing acc with
  | nil => rw [valF_nil, List.length_nil, Nat.pow_zero]; omega
  | cons c l ih =>
    have hc := h c (by simp)
    have := ih (acc * 10 + (c.toNat - 48)) (fun d hd => h d (by simp [hd]))
    rw [valF_cons, List.length_cons, Nat.pow_succ]
    refine Nat.lt_of_lt_of_le this ?_
    rw [show (acc + 1) * (10 ^ l.length * 10) = ((acc + 1) * 10) * 10 ^ l.length by rw [Nat.mul_assoc, Nat.mul_comm 10 (10 ^ l.length)]]
    exact Nat.mul_le_mul_right _ (by omega)
theorem dec_digs : ∀ u : Nat, digs (Lib.decDigits u) := by
  intro u
  induction u using Nat.strongRecOn with
  | ind u ih =>
    by_cases h : u < 10
    · rw [Lib.decDigits_one h]
      intro c hc
      obtain rfl : c = UInt8.ofNat (48 + u) := by simpa using hc
      simp [UInt8.toNat_ofNat']; omega
    · rw [Lib.decDigits, dif_neg h]
      intro c hc
      rcases List.mem_append.1 hc with hc | hc
      · exact ih (u / 10) (by omega) c hc
      · obtain rfl : c = UInt8.ofNat (48 + u % 10) := by simpa using hc
        simp [UInt8.toNat_ofNat']; omega
theorem dec_val : ∀ u : Nat, valF 0 (Lib.decDigits u) = u := by
  intro u
  induction u using Nat.strongRecOn with
  | ind u ih =>
    by_cases h : u < 10
    · rw [Lib.decDigits_one h, valF_cons, valF_nil]
      simp [UInt8.toNat_ofNat']; omega
    · rw [Lib.decDigits, dif_neg h, valF_app, ih (u / 10) (by omega), valF_cons, valF_nil]
      simp [UInt8.toNat_ofNat']; omega
theorem dec_ne (u : Nat) : Lib.decDigits u ≠ [] := by
  rw [Lib.decDigits]
  split <;> simp
theorem parse_digs : ∀ (l : List UInt8) (acc : Nat), digs l → valF acc l < 1000000000000000000 → Lib.parseUintM (2 ^ 64 - 1) acc l = .ok (valF acc l) := by
  intro l
  induction l with
  | nil => intro acc _ _; rfl
  | cons c l ih =>
    intro acc h hv
    have hc := h c (by simp)
    have h1 := valF_le (acc * 10 + (c.toNat - 48)) l
    rw [valF_cons] at hv ⊢
    rw [Lib.parseUintM, if_pos hc, if_neg (by omega), if_neg (by omega), ih _ (fun d hd => h d (by simp [hd])) hv]
/-- A text is a number's decimal form, of a number of at most 18 digits. -/
def numOk (t : List UInt8) (m : Int) : Prop := -1000000000000000000 < m ∧ m < 1000000000000000000 ∧ Lib.itoa m = t
theorem head_digit {l : List UInt8} {c : UInt8} {r : List UInt8} (h : digs l) (e : l = c :: r) : ¬ (c.toNat = 43 ∨ c.toNat = 45) := by
  have := h c (by simp [e])
  omega
theorem parseU_digs {l : List UInt8} (h0 : l ≠ []) (h : digs l) (hv : valF 0 l < 1000000000000000000) : Lib.parseUintB 64 l = .ok (valF 0 l) := by
  unfold Lib.parseUintB
  rw [if_neg h0, parse_digs l 0 h hv]
theorem parseI_neg {r : List UInt8} {u : Nat} (h : Lib.parseUintB 64 r = .ok u) (hu : u < 1000000000000000000) : Lib.parseIntB 64 (45 :: r) = .ok (-(u : Int)) := by
  have z : ¬ 9223372036854775808 < u := by omega
  simp [Lib.parseIntB, h, z]
theorem parseI_pos {c : UInt8} {r : List UInt8} {u : Nat} (hc : ¬ (c.toNat = 43 ∨ c.toNat = 45)) (h : Lib.parseUintB 64 (c :: r) = .ok u) (hu : u < 1000000000000000000) : Lib.parseIntB 64 (c :: r) = .ok (u : Int) := by
  have z : ¬ 9223372036854775808 ≤ u := by omega
  have h45 : ¬ c.toNat = 45 := fun h => hc (.inr h)
  have h43 : ¬ c.toNat = 43 := fun h => hc (.inl h)
  simp [Lib.parseIntB, h, z, h45, h43]
theorem parse_itoa {m : Int} (h0 : -1000000000000000000 < m) (h1 : m < 1000000000000000000) : Lib.parseIntB 64 (Lib.itoa m) = .ok m := by
  by_cases hn : m < 0
  · rw [Lib.itoa, if_pos hn]
    have hv := dec_val m.natAbs
    have := parseI_neg (parseU_digs (dec_ne m.natAbs) (dec_digs m.natAbs) (by omega)) (by omega)
    rw [this, hv]
    congr 1
    omega
  · rw [Lib.itoa, if_neg hn]
    have hd := dec_digs m.toNat
    have hv := dec_val m.toNat
    have hu := parseU_digs (dec_ne m.toNat) hd (by omega)
    obtain ⟨c, r, e⟩ : ∃ c r, Lib.decDigits m.toNat = c :: r := by
      have := dec_ne m.toNat
      generalize Lib.decDigits m.toNat = l at this
      cases l with
      | nil => exact absurd rfl this
      | cons c r => exact ⟨c, r, rfl⟩
    rw [e] at hu hv ⊢
    rw [parseI_pos (head_digit hd e) hu (by omega), hv]
    congr 1
    omega
theorem numOk_one {t : List UInt8} {m m' : Int} (h : numOk t m) (h' : numOk t m') : m = m' := by
  have e1 := parse_itoa h.1 h.2.1
  have e2 := parse_itoa h'.1 h'.2.1
  rw [h.2.2] at e1
  rw [h'.2.2, e1] at e2
  injection e2
theorem itoa_mem {m : Int} {c : UInt8} (h : c ∈ Lib.itoa m) : c.toNat = 45 ∨ (48 ≤ c.toNat ∧ c.toNat ≤ 57) := by
  unfold Lib.itoa at h
  split at h
  · rcases List.mem_cons.1 h with rfl | h
    · exact .inl rfl
    · exact .inr (dec_digs _ c h)
  · exact .inr (dec_digs _ c h)
theorem itoa_ne (m : Int) : Lib.itoa m ≠ [] := by
  unfold Lib.itoa
  split
  · simp
  · exact dec_ne _
theorem itoa_no (m : Int) (c : UInt8) (h : c = 32 ∨ c = 61) : c ∉ Lib.itoa m := by
  intro hc
  have := itoa_mem hc
  rcases h with rfl | rfl
  · have e : (32 : UInt8).toNat = 32 := rfl
    omega
  · have e : (61 : UInt8).toNat = 61 := rfl
    omega
theorem nDigits_18 (u : Nat) (h : u < 1000000000000000000) : (Lib.decDigits u).length ≤ 18 := by
  rcases Nat.lt_or_ge 18 (Lib.decDigits u).length with hl | hl
  · exfalso
    have key : ∀ k u, k < (Lib.decDigits u).length → 0 < k → 10 ^ k ≤ u := by
      intro k
      induction k with
      | zero => intro u _ h; omega
      | succ k ih =>
        intro u hu _
        by_cases h10 : u < 10
        · rw [Lib.decDigits_one h10] at hu; simp at hu
        · rw [Lib.decDigits, dif_neg h10, List.length_append] at hu
          simp at hu
          rw [Nat.pow_succ]
          rcases Nat.eq_zero_or_pos k with rfl | hk
          · simp; omega
          · have := ih (u / 10) hu hk
            omega
    have := key 18 u hl (by omega)
    omega
  · exact hl
end Go.Proofs.YtclfhegjfjcjeaaDoor
