/-
  AlarmTimes: the reference's and the program's. No condition but those that each theorem names.
-/
import Derived.Test.YtjepeibajnlgeaaAlarm
import Derived.Test.YtjepeibajnlgeaaMarkSS
namespace Go.Proofs.Ytjepeibajnlgeaa
open Go.RowKit
set_option linter.unusedVariables false

def almR (l : Prs) (limit calm : Int) : Prs := if alCode l limit calm = 0 then alm limit calm l else []
def almL (l : Prs) (limit calm : Int) : List (List Int) := (almR l limit calm).map fun p => [p.1, p.2]
theorem rP_rr (a : Prs) : rP a = rrInt64 (a.map fun p => [p.1, p.2]) := by
  simp [rP, rrInt64, cP, rInt64, rows, List.flatMap_cons, cInt64]
theorem almR_len (l : Prs) (limit calm : Int) : (almR l limit calm).length ≤ l.length := by
  unfold almR; split
  · exact almTo_len limit calm l l.length
  · simp
theorem almL_len (l : Prs) (limit calm : Int) : (almL l limit calm).length = (almR l limit calm).length := by simp [almL]
theorem almL_row {l : Prs} {limit calm : Int} : ∀ r ∈ almL l limit calm, r.length = 2 := by
  intro r hr
  unfold almL at hr
  obtain ⟨p, _, rfl⟩ := List.mem_map.1 hr
  rfl
theorem rr_row {L : List (List Int)} {q : Nat} (h : ∀ r ∈ L, r.length ≤ q) (k : Nat) : ((rrInt64 L).getD k []).length ≤ q := by
  rw [rrInt64_at, rInt64_len1]
  rcases Nat.lt_or_ge k L.length with hk | hk
  · rw [show L.getD k [] = L[k] by simp [List.getD, hk]]; exact h _ (List.getElem_mem hk)
  · simp [List.getD, hk]
theorem tot_bd (rs : List (List Value)) (q : Nat) (h : ∀ k, (rs.getD k []).length ≤ q) (n : Nat) (hn : n ≤ rs.length) : tot rs n ≤ n * q := by
  induction n with
  | zero => simp [tot_zero]
  | succ n ih =>
    rw [tot_succ rs n (by omega)]
    have := ih (by omega)
    have := h n
    rw [Nat.add_mul]; omega
theorem validR_sec {l : Prs} (h : validR l = true) : ∀ k (hk : k < l.length), 0 ≤ l[k].1 ∧ l[k].1 ≤ 1000000 := by
  intro k hk
  unfold validR at h
  rw [Bool.and_eq_true, List.all_eq_true] at h
  have := h.1 k (by simpa using hk)
  unfold okR at this
  simp only [Bool.and_eq_true] at this
  have h1 := inR_true this.1.1
  simpa [List.getD, hk] using h1
theorem alCode_zero {l : Prs} {limit calm : Int} (h : alCode l limit calm = 0) : validR l = true ∧ (0 ≤ limit ∧ limit ≤ 600) ∧ (0 ≤ calm ∧ calm ≤ 3600) := by
  unfold alCode at h
  split at h
  · rename_i h1
    split at h
    · rename_i h2
      split at h
      · rename_i h3
        exact ⟨h1, inR_true h2, inR_true h3⟩
      · omega
    · omega
  · omega

set_option maxHeartbeats 1000000 in
theorem specAlarmTimes_any (A : Option Addr) (n c lo hi : Nat) (l : Prs) (limit calm : Int) (hn : n ≤ 1048576) (w : World) (hl : l.length = n) (h : Rd w lo hi 2 A n (rReading l)) (hhi : hi ≤ w.heap.size) :
    Calls Try.prog 26 #[.slice A n c, .int .i64 limit, .int .i64 calm] w fun e w' => ∃ v, e = .returned (.tuple #[v, .int .i64 (alCode l limit calm)]) ∧ OwnSS w' w.heap.size w'.heap.size 61 2 v (almL l limit calm).length (rrInt64 (almL l limit calm)) ∧ Below w.heap.size w w' := by
  have H := hide h
  have HL := hide hl
  clear h hl
  have HX : Hid (rrInt64 (almL l limit calm) = rP (almR l limit calm)) := hide (rP_rr _).symm
  have HY := hide (almL_len l limit calm)
  obtain ⟨cc, hcc⟩ : ∃ cc, alCode l limit calm = cc := ⟨_, rfl⟩
  rw [HX.out, HY.out, hcc]
  have HC := hide hcc
  clear hcc
  by_cases hz : cc = 0
  · subst hz
    have HR : Hid (almR l limit calm = alm limit calm l) := hide (by unfold almR; rw [if_pos HC.out])
    obtain ⟨e0, ⟨e1, e2⟩, e3, e4⟩ := alCode_zero HC.out
    have HV := hide (validR_sec e0)
    clear e0
    go_enter Try.func26, Try.ntmps26
    go_wp2_with fail
    refine (l21Alarm_any A n c lo hi l limit calm hn _ HL.out H.out hhi).mono ?_
    rintro e w1 ⟨rfl, hb1⟩
    rw [HC.out]
    have hs1 := hb1.size
    go_wp2_with fail
    refine (l21Times_any A n c lo hi l limit calm hn HV.out e3 e4 _ HL.out (H.out.below hb1 hhi) (by omega)).mono ?_
    rintro e w2 ⟨v, rfl, hown, hb2⟩
    have HOWN := hide hown
    clear hown
    go_wp2_with fail
    go_ret2
    refine ⟨v, rfl, ?_, hb1.trans (hb2.mono hs1)⟩
    rw [HR.out]
    exact HOWN.out.mono hs1 (Nat.le_refl _)
  · have hz2 : (cc == 0) = false := by simpa using hz
    have hz3 : (cc != 0) = true := by simpa using hz
    have HR : Hid (almR l limit calm = []) := hide (by unfold almR; rw [HC.out, if_neg hz])
    go_enter Try.func26, Try.ntmps26
    go_wp2_with fail
    refine (l21Alarm_any A n c lo hi l limit calm hn _ HL.out H.out hhi).mono ?_
    rintro e w1 ⟨rfl, hb1⟩
    rw [HC.out]
    go_wp2_with fail
    go_ret2
    refine ⟨.slice none 0 0, rfl, ?_, hb1⟩
    rw [HR.out]
    exact OwnSS.nil_ _ _ _ _ _

set_option maxHeartbeats 1000000 in
theorem implAlarmTimes_any (A : Option Addr) (n c lo hi : Nat) (l : Prs) (limit calm : Int) (hn : n ≤ 1048576) (w : World) (hl : l.length = n) (h : Rd w lo hi 2 A n (rReading l)) (hhi : hi ≤ w.heap.size) :
    Calls Try.prog 27 #[.slice A n c, .int .i64 limit, .int .i64 calm] w fun e w' => ∃ v, e = .returned (.tuple #[v, .int .i64 (alCode l limit calm)]) ∧ OwnSS w' w.heap.size w'.heap.size 61 2 v (almL l limit calm).length (rrInt64 (almL l limit calm)) ∧ Below w.heap.size w w' := by
  have H := hide h
  have HL := hide hl
  clear h hl
  have HX : Hid (rrInt64 (almL l limit calm) = rP (almR l limit calm)) := hide (rP_rr _).symm
  have HY := hide (almL_len l limit calm)
  obtain ⟨cc, hcc⟩ : ∃ cc, alCode l limit calm = cc := ⟨_, rfl⟩
  rw [HX.out, HY.out, hcc]
  have HC := hide hcc
  clear hcc
  by_cases hz : cc = 0
  · subst hz
    have HR : Hid (almR l limit calm = alm limit calm l) := hide (by unfold almR; rw [if_pos HC.out])
    obtain ⟨e0, ⟨e1, e2⟩, e3, e4⟩ := alCode_zero HC.out
    have HV := hide (validR_sec e0)
    clear e0
    go_enter Try.func27, Try.ntmps27
    go_wp2_with fail
    refine (alarmCode_any A n c lo hi l limit calm hn _ HL.out H.out hhi).mono ?_
    rintro e w1 ⟨rfl, hb1⟩
    rw [HC.out]
    have hs1 := hb1.size
    go_wp2_with fail
    refine (alarms_any A n c lo hi l limit calm hn HV.out e3 e4 _ HL.out (H.out.below hb1 hhi) (by omega)).mono ?_
    rintro e w2 ⟨v, rfl, hown, hb2⟩
    have HOWN := hide hown
    clear hown
    go_wp2_with fail
    go_ret2
    refine ⟨v, rfl, ?_, hb1.trans (hb2.mono hs1)⟩
    rw [HR.out]
    exact HOWN.out.mono hs1 (Nat.le_refl _)
  · have hz2 : (cc == 0) = false := by simpa using hz
    have hz3 : (cc != 0) = true := by simpa using hz
    have HR : Hid (almR l limit calm = []) := hide (by unfold almR; rw [HC.out, if_neg hz])
    go_enter Try.func27, Try.ntmps27
    go_wp2_with fail
    refine (alarmCode_any A n c lo hi l limit calm hn _ HL.out H.out hhi).mono ?_
    rintro e w1 ⟨rfl, hb1⟩
    rw [HC.out]
    go_wp2_with fail
    go_ret2
    refine ⟨.slice none 0 0, rfl, ?_, hb1⟩
    rw [HR.out]
    exact OwnSS.nil_ _ _ _ _ _

end Go.Proofs.Ytjepeibajnlgeaa
