/-
  CONTRACTS of the laws' helper that marks a slice of slices of bools: what it counts, and that it touches the slice's own blocks alone. No condition but those that each theorem names.
-/
import Derived.Test.YthpoapkdlcoikaaFamSBool
import Derived.Test.YthpoapkdlcoikaaMarkSS
namespace Go.Proofs.Ythpoapkdlcoikaa
open Go.RowKit
set_option linter.unusedVariables false

set_option maxHeartbeats 1000000 in
theorem markBoolS_some (v : Value) (n lo hi : Nat) (xs : List Value) (q : Int) (hq : 0 ≤ q) (hq2 : q ≤ 100000000) (hn : n ≤ 1048576) (w : World) (h : Own w lo hi 4 1 v n xs) (hbool : ∀ k, k < n → ∃ b, xs[k]? = some (.bool b)) (hlh : lo ≤ hi) :
    Calls Try.prog 75 #[v, .int .i64 q] w fun e w' => e = .returned (.int .i64 (q + (n : Int))) ∧ (∃ ys, Own w' lo hi 4 1 v n ys) ∧ Tch lo hi w w' := by
  obtain ⟨A, c, rfl, hnc, hcm, hrd⟩ := h.rd
  have Hh := h.2
  have ho0 := h.1
  have HB := hide hbool
  clear hrd h hbool
  go_enter Try.func75, Try.ntmps75
  go_wp2
  go_loopw [1, 5] (fun kk i wr => ∃ k : Nat, ∃ ys : List Value, k ≤ n ∧ i = .int .i64 k ∧ kk = .int .i64 (q + (k : Int)) ∧ wr.ownsRow lo 4 1 (.slice A n c) n ys ∧ Hid (∀ j, k ≤ j → ys[j]? = xs[j]?) ∧ Tch lo hi w wr) (fun _ i _ => n - (intOf i).toNat)
  case atStart => exact ⟨0, xs, by omega, rfl, vint (by omega), ho0, hide (fun _ _ => rfl), Tch.refl _ _ _⟩
  case round =>
    obtain ⟨k, ys, hk, rfl, rfl, ho, HL, ht⟩ := hrel
    by_cases hlt : k < n
    · obtain ⟨g, cap, hv⟩ := Joins.ownsRow_form ho (by omega)
      obtain ⟨rfl, rfl⟩ : A = some ⟨g, 0, none⟩ ∧ c = cap := by injection hv with e1 e2 e3; exact ⟨e1, e3⟩
      clear hv
      have hgh : g < hi := Hh g rfl
      have hgl : lo ≤ g := (ho.lt g rfl).1
      obtain ⟨b, hb⟩ := HB.out k hlt
      have d0 : wr.cell? ⟨g, k, none⟩ = some (.bool b) := (ho.cellAt _ (by omega)).trans ((HL.out k (Nat.le_refl _)).trans hb)
      have f0 := ho.frozenAt (k)
      clear hb
      go_wp2_with fail
      go_roundw
      case rel =>
        refine ⟨k + 1, _, by omega, by go_num, vint (by omega), (ho.stored k _).1, hide (fun j hj => ?_), (tch_set ht (by omega) (by omega) _ _)⟩
        rw [List.getElem?_set_ne (by omega)]
        exact HL.out j (by omega)
      case measure => simp [intOf]; omega
    · obtain rfl : k = n := by omega
      go_wp2
      go_ret
      exact ⟨rfl, ⟨ys, ho, Hh⟩, ht⟩

set_option maxRecDepth 100000 in
set_option maxHeartbeats 2000000 in
theorem markBoolSS_any (v : Value) (n lo hi : Nat) (l : List (List Bool)) (q : Int) (hq : 0 ≤ q) (hq2 : q + (tot (rrBool l) n : Nat) ≤ 100000000) (hn : n ≤ 1048576) (hrow : ∀ k, (l.getD k []).length ≤ 1048576) (w : World) (h : OwnSS w lo hi 73 4 v n (rrBool l)) (hlh : lo ≤ hi) :
    Calls Try.prog 27 #[v, .int .i64 q] w fun e w' => e = .returned (.int .i64 (q + (tot (rrBool l) n : Nat))) ∧ Tch lo hi w w' := by
  have hlen := h.length
  obtain ⟨us, ho0, hro0⟩ := h
  have H1 := hide hlen
  have HR := hide hrow
  have HNE : Hid ((73 : TypeId) ≠ 4) := hide (by decide)
  have hrd := ho0.rd
  obtain ⟨A, c, rfl, hnc, hcm, hr0⟩ := hrd
  have HO := hide ho0
  have HRO := hide hro0
  clear ho0 hro0 hlen hrow hr0
  unfold maxLen at hcm
  go_enter Try.func27, Try.ntmps27
  go_wp2
  go_loopw [1, 5] (fun kk i wr => ∃ k : Nat, ∃ rs : List (List Value), k ≤ n ∧ i = .int .i64 k ∧ kk = .int .i64 (q + (tot (rrBool l) k : Nat)) ∧ Hid (Own wr lo hi 73 1 (.slice A n c) n us ∧ Rows wr lo hi 4 us rs) ∧ Hid (∀ j, k ≤ j → rs.getD j [] = (rrBool l).getD j []) ∧ Hid (rs.length = n) ∧ Tch lo hi w wr) (fun _ i _ => n - (intOf i).toNat)
  case atStart => exact ⟨0, rrBool l, by omega, rfl, vint (by rw [tot_zero]; omega), hide ⟨HO.out, HRO.out⟩, hide (fun _ _ => rfl), H1, Tch.refl _ _ _⟩
  case round =>
    obtain ⟨k, rs, hk, rfl, rfl, HS, HE, HN, ht⟩ := hrel
    by_cases hlt : k < n
    · have hm := tot_mono (rrBool l) (show k ≤ n by omega)
      have hkl : k < rs.length := by rw [HN.out]; exact hlt
      obtain ⟨u, lo', hi', hu, l1, l2, l3, hown, hback⟩ := ss_row HS.out.1 HS.out.2 HNE.out hlh hkl
      rw [HE.out k (Nat.le_refl _), rrBool_at] at hown hback
      have hlr := HR.out k
      have hts := tot_succ (rrBool l) k (by rw [H1.out]; exact hlt)
      rw [rrBool_at] at hts
      have hmm := tot_mono (rrBool l) (show k + 1 ≤ n by omega)
      obtain ⟨g, cap, hv⟩ := Joins.ownsRow_form HS.out.1.1 (by omega)
      obtain ⟨rfl, rfl⟩ : A = some ⟨g, 0, none⟩ ∧ c = cap := by injection hv with e1 e2 e3; exact ⟨e1, e3⟩
      have d0 : wr.cell? ⟨g, k, none⟩ = some u := (HS.out.1.1.cellAt _ (by omega)).trans hu
      have HT := hide hts
      have hbb : ∀ j, j < (rBool (l.getD k [])).length → ∃ b, (rBool (l.getD k []))[j]? = some (.bool b) := fun j hj => by
        rw [rBool_len1] at hj
        have := rBool_at (l.getD k []) j hj
        rw [Nat.mul_one] at this
        exact ⟨_, this⟩
      have HBB := hide hbb
      have hlr2 : (rBool (l.getD k [])).length ≤ 1048576 := by rw [rBool_len1]; exact hlr
      have HBK := hide hback
      have HOW := hide hown
      clear hv hu hback hown hts hbb hlr
      rw [HT.out] at hmm
      generalize hln : (rBool (l.getD k [])).length = len at *
      have HLN := hide hln
      clear hln
      go_wp2_with fail
      refine (markBoolS_some u len lo' hi' _ _ (by omega) (by omega) (by omega) _ HOW.out HBB.out l2).mono ?_
      rintro e w2 ⟨rfl, ho2, ht2⟩
      obtain ⟨ys, hys⟩ := ho2
      have HOS := hide (HBK.out w2 ys hys ht2)
      clear hys
      go_wp2_with fail
      go_roundw
      case rel =>
        refine ⟨k + 1, rs.set k ys, by omega, by go_num, vint (by have := HT.out; omega), HOS, hide (fun j hj => ?_), hide (by rw [List.length_set]; exact HN.out), ht.trans (ht2.mono l1 l3)⟩
        simp only [List.getD]
        rw [List.getElem?_set_ne (by omega)]
        exact HE.out j (by omega)
      case measure => simp [intOf]; omega
    · obtain rfl : k = n := by omega
      go_wp2
      go_ret
      exact ⟨rfl, ht⟩
theorem rrI_row {L : List (List Int)} {q : Nat} (h : ∀ r ∈ L, r.length ≤ q) (k : Nat) : ((rrInt64 L).getD k []).length ≤ q := by
  rw [rrInt64_at, rInt64_len1]
  rcases Nat.lt_or_ge k L.length with hk | hk
  · rw [show L.getD k [] = L[k] by simp [List.getD, hk]]; exact h _ (List.getElem_mem hk)
  · simp [List.getD, hk]
theorem totI_bd (rs : List (List Value)) (q : Nat) (h : ∀ k, (rs.getD k []).length ≤ q) (n : Nat) (hn : n ≤ rs.length) : tot rs n ≤ n * q := by
  induction n with
  | zero => simp [tot_zero]
  | succ n ih =>
    rw [tot_succ rs n (by omega)]
    have := ih (by omega)
    have := h n
    rw [Nat.add_mul]; omega
end Go.Proofs.Ythpoapkdlcoikaa
