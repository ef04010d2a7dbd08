/-
  CONTRACTS of the laws' helpers on a slice of slices of numbers: marking, and holding the marks. No condition but those that each theorem names.
-/
import Derived.Test.YthpoapkdlcoikaaFamSInt64
namespace Go.Proofs.Ythpoapkdlcoikaa
open Go.RowKit
set_option linter.unusedVariables false

/-- The rows behind the marking of the first k. -/
def msTo (q : Int) (rs : List (List Value)) : Nat → List (List Value)
  | 0 => rs
  | k + 1 => (msTo q rs k).set k (marks (q + (tot rs k : Nat)) ((rs.getD k []).length))
theorem msTo_len (q : Int) (rs : List (List Value)) (k : Nat) : (msTo q rs k).length = rs.length := by
  induction k with
  | zero => rfl
  | succ k ih => simp [msTo, ih]
theorem msTo_later (q : Int) (rs : List (List Value)) (k j : Nat) (h : k ≤ j) : (msTo q rs k).getD j [] = rs.getD j [] := by
  induction k with
  | zero => rfl
  | succ k ih =>
    have := ih (by omega)
    simp only [msTo, List.getD] at this ⊢
    rw [List.getElem?_set_ne (by omega)]
    exact this
theorem msTo_done (q : Int) (rs : List (List Value)) (k j : Nat) (h : j < k) (hj : j < rs.length) : (msTo q rs k).getD j [] = marks (q + (tot rs j : Nat)) ((rs.getD j []).length) := by
  induction k with
  | zero => omega
  | succ k ih =>
    by_cases e : k = j
    · subst e
      simp only [msTo, List.getD]
      rw [List.getElem?_set_self (by rw [msTo_len]; exact hj)]
      rfl
    · have := ih (by omega)
      simp only [msTo, List.getD] at this ⊢
      rw [List.getElem?_set_ne e]
      exact this

/-- One row of a slice of slices of the call's own, by itself. -/
theorem ss_row {w : World} {lo hi n : Nat} {T E : TypeId} {v : Value} {us : List Value} {rs : List (List Value)} (ho : Own w lo hi T 1 v n us) (hro : Rows w lo hi E us rs) (hne : T ≠ E) (hlh : lo ≤ hi) {i : Nat} (hil : i < rs.length) :
    ∃ u lo' hi', us[i]? = some u ∧ lo ≤ lo' ∧ lo' ≤ hi' ∧ hi' ≤ hi ∧ Own w lo' hi' E 1 u (rs.getD i []).length (rs.getD i []) ∧
      ∀ (w' : World) (r' : List Value), Own w' lo' hi' E 1 u (rs.getD i []).length r' → Tch lo' hi' w w' → Own w' lo hi T 1 v n us ∧ Rows w' lo hi E us (rs.set i r') := by
  have hiu : i < us.length := by rw [hro.len]; exact hil
  have er : rs.getD i [] = rs[i] := by simp [List.getD, hil]
  rw [er]
  have hrow := hro.row i us[i] rs[i] (List.getElem?_eq_getElem hiu) (List.getElem?_eq_getElem hil)
  have key : ∀ lo' hi', lo ≤ lo' → hi' ≤ hi → (∀ g, lo' ≤ g → g < hi' → us[i].ownBlock = some g) → ∀ (w' : World) (r' : List Value), Own w' lo' hi' E 1 us[i] rs[i].length r' → Tch lo' hi' w w' → Own w' lo hi T 1 v n us ∧ Rows w' lo hi E us (rs.set i r') := by
    intro lo' hi' h1 h2 hg w' r' hr' ht
    have hl' : r'.length = rs[i].length := by simpa using hr'.length
    refine ⟨ho.of_block fun k hk => ht.block k (ho.lt k hk).2.2 ?_, ⟨by simp [hro.len], fun k u r e1 e2 => ?_, hro.far⟩⟩
    · rcases Nat.lt_or_ge k lo' with a | a
      · exact .inl a
      · rcases Nat.lt_or_ge k hi' with b | b
        · exact absurd (hg k a b) (own_ne ho.1 hrow.1 hne k hk)
        · exact .inr b
    · by_cases e : i = k
      · subst e
        rw [List.getElem?_set_self hil] at e2
        obtain rfl := Option.some.inj e2
        rw [List.getElem?_eq_getElem hiu] at e1
        obtain rfl := Option.some.inj e1
        rw [hl']
        exact hr'.mono h1 h2
      · rw [List.getElem?_set_ne e] at e2
        have hrk := hro.row k u r e1 e2
        refine hrk.of_block fun g hg' => ht.block g (hrk.lt g hg').2.2 ?_
        rcases Nat.lt_or_ge g lo' with a | a
        · exact .inl a
        · rcases Nat.lt_or_ge g hi' with b | b
          · exact absurd (hg g a b) (hro.far k i u us[i] g (fun x => e x.symm) e1 (List.getElem?_eq_getElem hiu) hg')
          · exact .inr b
  cases hb : us[i].ownBlock with
  | none =>
    refine ⟨us[i], lo, lo, List.getElem?_eq_getElem hiu, Nat.le_refl _, Nat.le_refl _, hlh, ⟨hrow.1, fun g hg => by rw [hb] at hg; cases hg⟩, key lo lo (Nat.le_refl _) hlh (fun g h1 h2 => by omega)⟩
  | some g =>
    obtain ⟨g1, g2, g3⟩ := hrow.lt g hb
    have hown : Own w g (g + 1) E 1 us[i] rs[i].length rs[i] := by
      refine ⟨⟨hrow.1.1, ?_⟩, fun k hk => by rw [hb] at hk; obtain rfl := Option.some.inj hk; omega⟩
      rcases hrow.1.2 with h | ⟨k, cap, cur, hv, hk, r⟩
      · exact .inl h
      · have : k = g := by rw [hv] at hb; simpa [Value.ownBlock] using hb
        exact .inr ⟨k, cap, cur, hv, by omega, r⟩
    exact ⟨us[i], g, g + 1, List.getElem?_eq_getElem hiu, g1, by omega, by omega, hown, key g (g + 1) g1 (by omega) (fun k h1 h2 => by rw [hb]; congr 1; omega)⟩

theorem tot_le (rs : List (List Value)) {k : Nat} (h : k < rs.length) : tot rs k + (rs.getD k []).length ≤ tot rs rs.length := by
  rw [← tot_succ rs k h]; exact tot_mono rs (by omega)

set_option maxRecDepth 100000 in
set_option maxHeartbeats 2000000 in
theorem markInt64SS_any (v : Value) (n lo hi : Nat) (rs : List (List Value)) (q : Int) (hq : 0 ≤ q) (hq2 : q + (tot rs n : Nat) ≤ 100000000) (hn : n ≤ 1048576) (hrow : ∀ k, (rs.getD k []).length ≤ 1048576) (w : World) (h : OwnSS w lo hi 23 2 v n rs) (hlh : lo ≤ hi) :
    Calls Try.prog 29 #[v, .int .i64 q] w fun e w' => e = .returned (.int .i64 (q + (tot rs n : Nat))) ∧ OwnSS w' lo hi 23 2 v n (msTo q rs n) ∧ Tch lo hi w w' := by
  have hlen := h.length
  obtain ⟨us, ho0, hro0⟩ := h
  have H1 := hide hlen
  have HR := hide hrow
  have HNE : Hid ((23 : TypeId) ≠ 2) := hide (by decide)
  have hrd := ho0.rd
  obtain ⟨A, c, rfl, hnc, hcm, hr0⟩ := hrd
  have HO := hide ho0
  have HRO := hide hro0
  clear ho0 hro0 hlen hrow hr0
  unfold maxLen at hcm
  go_enter Try.func29, Try.ntmps29
  go_wp2
  go_loopw [1, 5] (fun kk i wr => ∃ k : Nat, k ≤ n ∧ i = .int .i64 k ∧ kk = .int .i64 (q + (tot rs k : Nat)) ∧ Hid (Own wr lo hi 23 1 (.slice A n c) n us ∧ Rows wr lo hi 2 us (msTo q rs k)) ∧ Tch lo hi w wr) (fun _ i _ => n - (intOf i).toNat)
  case atStart => exact ⟨0, by omega, rfl, vint (by rw [tot_zero]; omega), hide ⟨HO.out, HRO.out⟩, Tch.refl _ _ _⟩
  case round =>
    obtain ⟨k, hk, rfl, rfl, HS, ht⟩ := hrel
    by_cases hlt : k < n
    · have hm := tot_mono rs (show k ≤ n by omega)
      have hkl : k < (msTo q rs k).length := by rw [msTo_len, H1.out]; exact hlt
      obtain ⟨u, lo', hi', hu, l1, l2, l3, hown, hback⟩ := ss_row HS.out.1 HS.out.2 HNE.out hlh hkl
      rw [msTo_later q rs k k (Nat.le_refl _)] at hown hback
      have hlr := HR.out k
      have hts := tot_succ rs k (by rw [H1.out]; exact hlt)
      have hmm := tot_mono rs (show k + 1 ≤ n by omega)
      obtain ⟨g, cap, hv⟩ := Joins.ownsRow_form HS.out.1.1 (by omega)
      obtain ⟨rfl, rfl⟩ : A = some ⟨g, 0, none⟩ ∧ c = cap := by injection hv with e1 e2 e3; exact ⟨e1, e3⟩
      have d0 : wr.cell? ⟨g, k, none⟩ = some u := (HS.out.1.1.cellAt _ (by omega)).trans hu
      have HT := hide hts
      have HBK := hide hback
      have HOW := hide hown
      clear hv hu hback hown hts
      rw [HT.out] at hmm
      generalize hln : (rs.getD k []).length = len at *
      have HLN := hide hln
      clear hln
      go_wp2_with fail
      refine (markInt64S_any u len lo' hi' _ _ (by omega) (by omega) (by omega) _ HOW.out l2).mono ?_
      rintro e w2 ⟨rfl, ho2, ht2⟩
      have HOS := hide (HBK.out w2 _ (by simpa using ho2) ht2)
      go_wp2_with fail
      go_roundw
      case rel =>
        refine ⟨k + 1, by omega, by go_num, vint (by have := HT.out; omega), hide ?_, ht.trans (ht2.mono l1 l3)⟩
        have z := HOS.out
        have e : msTo q rs (k + 1) = (msTo q rs k).set k (marks (q + (tot rs k : Nat)) len) := by rw [← HLN.out]; rfl
        rw [e]
        exact z
      case measure => simp [intOf]; omega
    · obtain rfl : k = n := by omega
      go_wp2
      go_ret
      exact ⟨rfl, ⟨us, HS.out.1, HS.out.2⟩, ht⟩

set_option maxRecDepth 100000 in
set_option maxHeartbeats 2000000 in
theorem heldInt64SS_any (A : Option Addr) (n c lo hi : Nat) (rs : List (List Value)) (q : Int) (hq : 0 ≤ q) (hq2 : q + (tot rs n : Nat) ≤ 100000000) (hn : n ≤ 1048576) (hl : rs.length = n) (hrow : ∀ k, (rs.getD k []).length ≤ 1048576) (w : World) (h : RdSS w lo hi A n (msTo q rs n)) :
    Calls Try.prog 30 #[.slice A n c, .int .i64 q] w fun e w' => e = .returned (.int .i64 (q + (tot rs n : Nat))) ∧ w = w' := by
  have H1 := hide hl
  have H2 := hide h
  have HR := hide hrow
  clear h hl hrow
  go_enter Try.func30, Try.ntmps30
  go_wp2
  go_loop [1, 5] (fun kk i => ∃ k : Nat, k ≤ n ∧ i = .int .i64 k ∧ kk = .int .i64 (q + (tot rs k : Nat))) (fun _ i => n - (intOf i).toNat)
  case atStart => exact ⟨0, by omega, rfl, vint (by rw [tot_zero]; omega)⟩
  case round =>
    obtain ⟨k, hk, rfl, rfl⟩ := hrel
    by_cases hlt : k < n
    · have hm := tot_mono rs (show k ≤ n by omega)
      obtain ⟨b, off, Ai, ni, ci, rfl, hb1, hb2, hc, hnm, hni, hr⟩ := H2.out.at_ hlt
      rw [msTo_done q rs n k hlt (by rw [H1.out]; exact hlt)] at hni hr
      rw [marks_length] at hni
      have hlr := HR.out k
      have hts := tot_succ rs k (by rw [H1.out]; exact hlt)
      have hmm := tot_mono rs (show k + 1 ≤ n by omega)
      rw [hts] at hmm
      have HT := hide hts
      have HRR := hide hr
      have HNI := hide hni
      clear hr hts hni
      go_wp2_with fail
      refine (heldInt64S_any Ai ni ci lo hi _ (by omega) (by omega) (by rw [HNI.out]; exact hlr) _ (by rw [Nat.mul_one]; have := HRR.out; rwa [← HNI.out] at this)).mono ?_
      rintro e w' ⟨rfl, rfl⟩
      go_wp2_with fail
      go_round
      case rel => exact ⟨k + 1, by omega, by go_num, vint (by have := HT.out; have := HNI.out; omega)⟩
      case measure => simp [intOf]; omega
    · obtain rfl : k = n := by omega
      go_wp2
      go_ret
      exact ⟨rfl, rfl⟩
end Go.Proofs.Ythpoapkdlcoikaa
