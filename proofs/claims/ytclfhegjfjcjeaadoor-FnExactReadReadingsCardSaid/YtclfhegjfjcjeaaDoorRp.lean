/-
  READINGS READ, without the program: which texts are those of valid readings, and of which. No condition but those that each theorem names.
-/
import Derived.Test.YtclfhegjfjcjeaaDoorRw1
namespace Go.Proofs.YtclfhegjfjcjeaaDoor
open Go.RowKit
set_option linter.unusedVariables false
set_option linter.unusedSimpArgs false

/-- A text is that of valid readings. -/
def TxtOk (t : List UInt8) (M : List (Int × Int)) : Prop := validR M = true ∧ t = Lib.join (M.map rdT) [32]
theorem rds_all (M : List (Int × Int)) : rdsT M M.length = Lib.join (M.map rdT) [32] := by rw [rdsT_join _ _ (Nat.le_refl _), List.take_length]
theorem rdT_no (p : Int × Int) : (32 : UInt8) ∉ rdT p := by
  intro h
  unfold rdT at h
  rcases List.mem_append.1 h with h | h
  · rcases List.mem_append.1 h with h | h
    · exact itoa_no _ _ (.inl rfl) h
    · simp at h
  · exact itoa_no _ _ (.inl rfl) h
theorem rdT_ne (p : Int × Int) : rdT p ≠ [] := by unfold rdT; simp
theorem valid_pair {M : List (Int × Int)} (h : validR M = true) {k : Nat} (hk : k < M.length) : PairOk (rdT M[k]) M[k].1 M[k].2 := by
  obtain ⟨⟨a1, a2⟩, a3, a4⟩ := validR_at h hk
  exact ⟨_, _, rfl, ⟨by omega, by omega, rfl⟩, ⟨by omega, by omega, rfl⟩⟩
theorem pair_text {t : List UInt8} {a b : Int} (h : PairOk t a b) : t = rdT (a, b) := by
  obtain ⟨x, y, rfl, hx, hy⟩ := h
  rw [← hx.2.2, ← hy.2.2]
  rfl
theorem txt_split {t : List UInt8} {M : List (Int × Int)} (h : TxtOk t M) (h0 : t ≠ []) : splitL 32 t = M.map rdT := by
  rw [h.2]
  refine split_join (fun e => h0 ?_) (fun w hw => ?_)
  · rw [h.2, e, Lib.join_nil]
  · obtain ⟨p, _, rfl⟩ := List.mem_map.1 hw
    exact rdT_no p
theorem txt_fld {t : List UInt8} {M : List (Int × Int)} (h : TxtOk t M) : fldL [] t = M.map rdT := by
  rw [h.2]
  refine fld_join fun w hw => ?_
  obtain ⟨p, _, rfl⟩ := List.mem_map.1 hw
  exact ⟨rdT_no p, rdT_ne p⟩
/-- The words up to k are pairs, and these are they. -/
def PrsUp (ws : List (List UInt8)) (k : Nat) (O : List (Int × Int)) : Prop := O.length = k ∧ k ≤ ws.length ∧ ∀ i (hi : i < O.length), PairOk (ws.getD i []) O[i].1 O[i].2
theorem prs_nil (ws : List (List UInt8)) : PrsUp ws 0 [] := ⟨rfl, Nat.zero_le _, fun i hi => by simp at hi⟩
theorem prs_push {ws : List (List UInt8)} {k : Nat} {O : List (Int × Int)} {a b : Int} (h : PrsUp ws k O) (hk : k < ws.length) (hp : PairOk (ws.getD k []) a b) : PrsUp ws (k + 1) (O ++ [(a, b)]) := by
  obtain ⟨rfl, h2, h3⟩ := h
  refine ⟨by simp, hk, fun i hi => ?_⟩
  by_cases e : i < O.length
  · rw [List.getElem_append_left e]
    exact h3 i e
  · have : i = O.length := by simp at hi; omega
    subst this
    simpa using hp
theorem prs_all {ws : List (List UInt8)} {O : List (Int × Int)} (h : PrsUp ws ws.length O) : ws = O.map rdT := by
  obtain ⟨h1, _, h3⟩ := h
  refine List.ext_getElem (by simp [h1]) fun i h4 h5 => ?_
  have := pair_text (h3 i (by omega))
  rw [List.getElem_map, ← show ws.getD i [] = ws[i] by simp [List.getD, h4], this]
/-- Two lists of the same pairs. -/
theorem prs_one {ws : List (List UInt8)} {O M : List (Int × Int)} (h : PrsUp ws ws.length O) (hM : validR M = true) (e : ws = M.map rdT) : O = M := by
  obtain ⟨h1, _, h3⟩ := h
  have hl : M.length = ws.length := by rw [e, List.length_map]
  refine List.ext_getElem (by omega) fun i h4 h5 => ?_
  have h6 := h3 i h4
  rw [show ws.getD i [] = rdT M[i] by rw [e]; simp [List.getD, h5]] at h6
  obtain ⟨e1, e2⟩ := pair_one h6 (valid_pair hM h5)
  exact Prod.ext e1 e2
theorem txt_one {t : List UInt8} {M M' : List (Int × Int)} (h : TxtOk t M) (h' : TxtOk t M') : M = M' := by
  have e := (txt_fld h).symm.trans (txt_fld h')
  have hl : M.length = M'.length := by have := congrArg List.length e; simpa using this
  refine List.ext_getElem hl fun i h4 h5 => ?_
  have e2 : rdT M[i] = rdT M'[i] := by
    have := congrArg (fun l => l[i]?) e
    simpa [h4, h5] using this
  have h6 := valid_pair h.1 h4
  rw [e2] at h6
  obtain ⟨e3, e4⟩ := pair_one h6 (valid_pair h'.1 h5)
  exact Prod.ext e3 e4
/-- What a reader of readings answers. -/
def RdR (w w' : World) (e : Ending) (t : List UInt8) : Prop := ∃ (v : Value) (ok : Bool) (L : List (Int × Int)), e = .returned (.tuple #[v, .bool ok]) ∧ Own w' w.heap.size w'.heap.size 33 2 v L.length (rReading L) ∧ Below w.heap.size w w' ∧ Hid ((ok = true ∧ TxtOk t L) ∨ (ok = false ∧ L = [] ∧ ∀ M, ¬ TxtOk t M))
theorem rdR_no {w w' : World} {t : List UInt8} (h : ∀ M, ¬ TxtOk t M) (hb : Below w.heap.size w w') : RdR w w' (.returned (.tuple #[.slice none 0 0, .bool false])) t := ⟨_, false, [], rfl, ⟨World.ownsRow_nil _ _ _ _, fun g hg => by simp [Value.ownBlock] at hg⟩, hb, hide (.inr ⟨rfl, rfl, h⟩)⟩
theorem rd_same {t : List UInt8} {ok ok' : Bool} {L L' : List (Int × Int)} (h : (ok = true ∧ TxtOk t L) ∨ (ok = false ∧ L = [] ∧ ∀ M, ¬ TxtOk t M)) (h' : (ok' = true ∧ TxtOk t L') ∨ (ok' = false ∧ L' = [] ∧ ∀ M, ¬ TxtOk t M)) : ok = ok' ∧ L = L' := by
  rcases h with ⟨rfl, h⟩ | ⟨rfl, rfl, h⟩ <;> rcases h' with ⟨rfl, h'⟩ | ⟨rfl, rfl, h'⟩
  · exact ⟨rfl, txt_one h h'⟩
  · exact absurd h (h' _)
  · exact absurd h' (h _)
  · exact ⟨rfl, rfl⟩
end Go.Proofs.YtclfhegjfjcjeaaDoor
