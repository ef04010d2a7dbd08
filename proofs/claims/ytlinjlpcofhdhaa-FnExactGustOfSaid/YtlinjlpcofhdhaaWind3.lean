/-
  MeanWind and GustOf: the program's and the reference's compute the same. No condition but those that each theorem names.
-/
import Derived.Test.YtlinjlpcofhdhaaWind2
namespace Go.Proofs.Ytlinjlpcofhdhaa
open Go.RowKit
set_option linter.unusedVariables false

def mnVal (l : List (Int × Int)) (s d : Int) : Int := if spCode l s d = 0 then ((spRes l s d).sum + ((spRes l s d).length : Int) - 1) / ((spRes l s d).length : Int) else 0
def guVal (l : List (Int × Int)) (s d : Int) : Int := if spCode l s d = 0 then mx (spRes l s d) else 0
theorem sp_0 {l : List (Int × Int)} {s d : Int} (h : spCode l s d = 0) : wCode l s d = 0 ∧ spRes l s d = winl l s d l.length ∧ 0 < (spRes l s d).length ∧ (spRes l s d).length ≤ 200 ∧ ∀ x ∈ spRes l s d, 0 ≤ x ∧ x ≤ 600 := by
  have hw : wCode l s d = 0 := by
    unfold spCode at h
    by_cases e : wCode l s d = 0
    · exact e
    · rw [if_neg e] at h; exact absurd h e
  have hne : winl l s d l.length ≠ [] := by
    intro e
    have := (spCode_none hw e).1
    omega
  have hr := (spCode_some hw hne).2
  have hv := (wCode_0 hw).1
  refine ⟨hw, hr, ?_, ?_, ?_⟩
  · rw [hr]; exact List.length_pos_iff.2 hne
  · rw [hr]; exact Nat.le_trans (winl_le _ _ _ _) (validR_get hv).1
  · rw [hr]; exact winl_bd hv
theorem sp_ne {l : List (Int × Int)} {s d : Int} (h : spCode l s d ≠ 0) : (wCode l s d ≠ 0 ∧ spCode l s d = wCode l s d) ∨ (wCode l s d = 0 ∧ winl l s d l.length = [] ∧ spCode l s d = 3) := by
  by_cases e : wCode l s d = 0
  · right
    refine ⟨e, ?_⟩
    by_cases e2 : winl l s d l.length = []
    · exact ⟨e2, (spCode_none e e2).1⟩
    · exact absurd (spCode_some e e2).1 h
  · left
    exact ⟨e, (spCode_bad rfl e).1⟩
theorem ret2_int {a b c d : Int} (h : a = c) (h2 : b = d) : Ending.returned (.tuple #[.int .i64 a, .int .i64 b]) = .returned (.tuple #[.int .i64 c, .int .i64 d]) := by rw [h, h2]
theorem mn_bd {S L : Int} (h1 : 0 ≤ S) (h2 : 1 ≤ L) : 0 ≤ S + L - 1 := by omega

set_option maxHeartbeats 1000000 in
theorem implMeanWind_any (A : Option Addr) (n c lo hi : Nat) (l : List (Int × Int)) (s d : Int) (hn : n ≤ 1048576) (w : World) (hl : l.length = n) (h : Rd w lo hi 2 A n (rReading l)) (hhi : hi ≤ w.heap.size) :
    Calls Try.prog 33 #[.slice A n c, .int .i64 s, .int .i64 d] w fun e w' => e = .returned (.tuple #[.int .i64 (mnVal l s d), .int .i64 (spCode l s d)]) ∧ Below w.heap.size w w' := by
  have H := hide h
  have HL := hide hl
  clear h hl
  unfold mnVal
  by_cases h0 : spCode l s d = 0
  · obtain ⟨hj1, hj2, hp, h200, hv⟩ := sp_0 h0
    clear hj1 hj2
    have HV := hide hv
    have H0 := hide h0
    rw [if_pos h0, h0]
    clear hv h0
    generalize hR : spRes l s d = R at *
    have HRR := hide hR
    clear hR
    go_enter Try.func33, Try.ntmps33
    go_wp2_with fail
    refine (speedsIn_any A n c lo hi l s d hn _ HL.out H.out hhi).mono ?_
    rintro e w1 ⟨v, rfl, ho, hb1⟩
    rw [H0.out]
    rw [HRR.out] at ho
    obtain ⟨A1, c1, rfl, _, _, hr1⟩ := ho.rd
    have HR1 := hide hr1
    clear ho hr1
    · skip
      have hsb := sum_bd HV.out R.length
      rw [List.take_length] at hsb
      obtain ⟨hsb1, hsb2⟩ := hsb
      go_wp2_with (first | (go_at_call 69; refine (sumOf_any A1 R.length c1 _ _ R (by omega) rfl HV.out _ HR1.out).mono ?_; rintro e w' ⟨rfl, rfl⟩) | go_in)
      go_ret2
      exact ⟨rfl, hb1⟩
  · rw [if_neg h0]
    have hne : (spCode l s d != 0) = true := by simpa using h0
    go_enter Try.func33, Try.ntmps33
    go_wp2_with fail
    refine (speedsIn_any A n c lo hi l s d hn _ HL.out H.out hhi).mono ?_
    rintro e w1 ⟨v, rfl, ho, hb1⟩
    clear ho
    clear h0
    go_wp2_with fail
    go_ret2
    exact ⟨rfl, hb1⟩

set_option maxHeartbeats 2000000 in
theorem specMeanWind_any (A : Option Addr) (n c lo hi : Nat) (l : List (Int × Int)) (s d : Int) (hn : n ≤ 1048576) (w : World) (hl : l.length = n) (h : Rd w lo hi 2 A n (rReading l)) (hhi : hi ≤ w.heap.size) :
    Calls Try.prog 32 #[.slice A n c, .int .i64 s, .int .i64 d] w fun e w' => e = .returned (.tuple #[.int .i64 (mnVal l s d), .int .i64 (spCode l s d)]) ∧ Below w.heap.size w w' := by
  have H := hide h
  have HL := hide hl
  clear h hl
  unfold mnVal
  by_cases h0 : spCode l s d = 0
  · obtain ⟨hw, hres, hp, h200, hv⟩ := sp_0 h0
    obtain ⟨_, ⟨s0, s1⟩, d0, d1⟩ := wCode_0 hw
    rw [HL.out] at hres
    have HV := hide hv
    have H0 := hide h0
    have HW := hide hw
    rw [if_pos h0, h0]
    clear hv h0 hw
    generalize hR : spRes l s d = R at *
    have HRES := hide hres
    clear hres hR
    go_enter Try.func32, Try.ntmps32
    go_wp2_with fail
    refine (l21Code_any A n c lo hi l s d hn _ HL.out H.out hhi).mono ?_
    rintro e w1 ⟨rfl, hb1⟩
    rw [HW.out]
    have hs := hb1.size
    go_wp2_with fail
    refine (l21Window_any A n c lo hi l s d hn s0 s1 d0 d1 _ HL.out (H.out.below hb1 hhi) (by omega)).mono ?_
    rintro e w2 ⟨v, rfl, ho, hb2'⟩
    have hb2 : Below w.heap.size w w2 := hb1.trans (hb2'.mono hs)
    rw [← HRES.out] at ho
    obtain ⟨A1, c1, rfl, _, _, hr1⟩ := ho.rd
    have HR1 := hide hr1
    clear ho hr1 hb1 hb2' HRES
    have hz : ((R.length : Int) == 0) = false := by rw [beq_eq_false_iff_ne]; omega
    go_wp2
    go_loop [10, 11] (fun s' i => ∃ k : Nat, k ≤ R.length ∧ i = .int .i64 k ∧ s' = .int .i64 (R.take k).sum) (fun _ i => R.length - (intOf i).toNat)
    case atStart => exact ⟨0, by omega, rfl, by simp⟩
    case round =>
      obtain ⟨k, hk, rfl, rfl⟩ := hrel
      by_cases hlt : k < R.length
      · have hlen : k < R.length := hlt
        obtain ⟨b, off, rfl, hb1', hb2', hc⟩ := HR1.out.2 (by omega)
        have c0 := hc k _ (rInt64_get R k hlen)
        clear hc
        · skip
          have hb := sum_bd HV.out k
          have hx := HV.out _ (List.getElem_mem hlen)
          have E := hide (sum_succ hlen)
          generalize R[k] = x at *
          generalize (R.take k).sum = S at *
          obtain ⟨hs1', hs2'⟩ := hb
          obtain ⟨hx1, hx2⟩ := hx
          go_wp2
          go_round
          case rel => exact ⟨k + 1, by omega, by go_num, by rw [E.out]⟩
          case measure => simp [intOf]; omega
      · skip
        obtain rfl : k = R.length := by omega
        have hsb := sum_bd HV.out R.length
        rw [List.take_length] at hsb
        obtain ⟨hsb1, hsb2⟩ := hsb
        rw [List.take_length]
        go_wp2
        go_ret2
        exact ⟨rfl, hb2⟩
  · rw [if_neg h0]
    rcases sp_ne h0 with ⟨hw, hc⟩ | ⟨hw, hnil, hc⟩
    · rw [hc]
      have hne : (wCode l s d != 0) = true := by simpa using hw
      clear hc h0
      go_enter Try.func32, Try.ntmps32
      go_wp2_with fail
      refine (l21Code_any A n c lo hi l s d hn _ HL.out H.out hhi).mono ?_
      rintro e w1 ⟨rfl, hb1⟩
      clear hw
      go_wp2_with fail
      go_ret2
      exact ⟨rfl, hb1⟩
    · rw [hc]
      obtain ⟨_, ⟨s0, s1⟩, d0, d1⟩ := wCode_0 hw
      rw [HL.out] at hnil
      have HW := hide hw
      have HN := hide hnil
      clear hc h0 hw hnil
      go_enter Try.func32, Try.ntmps32
      go_wp2_with fail
      refine (l21Code_any A n c lo hi l s d hn _ HL.out H.out hhi).mono ?_
      rintro e w1 ⟨rfl, hb1⟩
      rw [HW.out]
      have hs := hb1.size
      go_wp2_with fail
      refine (l21Window_any A n c lo hi l s d hn s0 s1 d0 d1 _ HL.out (H.out.below hb1 hhi) (by omega)).mono ?_
      rintro e w2 ⟨v, rfl, ho, hb2'⟩
      rw [HN.out] at ho
      obtain ⟨A1, c1, rfl, _, _, _⟩ := ho.rd
      have hz : (((([] : List Int).length : Nat) : Int) == 0) = true := rfl
      clear ho
      go_wp2
      go_ret2
      exact ⟨rfl, hb1.trans (hb2'.mono hs)⟩

set_option maxHeartbeats 1000000 in
theorem implGustOf_any (A : Option Addr) (n c lo hi : Nat) (l : List (Int × Int)) (s d : Int) (hn : n ≤ 1048576) (w : World) (hl : l.length = n) (h : Rd w lo hi 2 A n (rReading l)) (hhi : hi ≤ w.heap.size) :
    Calls Try.prog 43 #[.slice A n c, .int .i64 s, .int .i64 d] w fun e w' => e = .returned (.tuple #[.int .i64 (guVal l s d), .int .i64 (spCode l s d)]) ∧ Below w.heap.size w w' := by
  have H := hide h
  have HL := hide hl
  clear h hl
  unfold guVal
  by_cases h0 : spCode l s d = 0
  · obtain ⟨hj1, hj2, hp, h200, hv⟩ := sp_0 h0
    clear hj1 hj2
    have HV := hide hv
    have H0 := hide h0
    rw [if_pos h0, h0]
    clear hv h0
    generalize hR : spRes l s d = R at *
    have HRR := hide hR
    clear hR
    go_enter Try.func43, Try.ntmps43
    go_wp2_with fail
    refine (speedsIn_any A n c lo hi l s d hn _ HL.out H.out hhi).mono ?_
    rintro e w1 ⟨v, rfl, ho, hb1⟩
    rw [H0.out]
    rw [HRR.out] at ho
    obtain ⟨A1, c1, rfl, _, _, hr1⟩ := ho.rd
    have HR1 := hide hr1
    clear ho hr1
    · skip
      go_wp2_with (first | (go_at_call 76; refine (slMax_any A1 R.length c1 _ _ R (by omega) (by omega) rfl HV.out _ HR1.out).mono ?_; rintro e w' ⟨rfl, rfl⟩) | go_in)
      go_ret2
      exact ⟨rfl, hb1⟩
  · rw [if_neg h0]
    have hne : (spCode l s d != 0) = true := by simpa using h0
    go_enter Try.func43, Try.ntmps43
    go_wp2_with fail
    refine (speedsIn_any A n c lo hi l s d hn _ HL.out H.out hhi).mono ?_
    rintro e w1 ⟨v, rfl, ho, hb1⟩
    clear ho
    clear h0
    go_wp2_with fail
    go_ret2
    exact ⟨rfl, hb1⟩

set_option maxHeartbeats 2000000 in
theorem specGustOf_any (A : Option Addr) (n c lo hi : Nat) (l : List (Int × Int)) (s d : Int) (hn : n ≤ 1048576) (w : World) (hl : l.length = n) (h : Rd w lo hi 2 A n (rReading l)) (hhi : hi ≤ w.heap.size) :
    Calls Try.prog 42 #[.slice A n c, .int .i64 s, .int .i64 d] w fun e w' => e = .returned (.tuple #[.int .i64 (guVal l s d), .int .i64 (spCode l s d)]) ∧ Below w.heap.size w w' := by
  have H := hide h
  have HL := hide hl
  clear h hl
  unfold guVal
  by_cases h0 : spCode l s d = 0
  · obtain ⟨hw, hres, hp, h200, hv⟩ := sp_0 h0
    obtain ⟨_, ⟨s0, s1⟩, d0, d1⟩ := wCode_0 hw
    rw [HL.out] at hres
    have HV := hide hv
    have H0 := hide h0
    have HW := hide hw
    rw [if_pos h0, h0]
    clear hv h0 hw
    generalize hR : spRes l s d = R at *
    have HRES := hide hres
    clear hres hR
    go_enter Try.func42, Try.ntmps42
    go_wp2_with fail
    refine (l21Code_any A n c lo hi l s d hn _ HL.out H.out hhi).mono ?_
    rintro e w1 ⟨rfl, hb1⟩
    rw [HW.out]
    have hs := hb1.size
    go_wp2_with fail
    refine (l21Window_any A n c lo hi l s d hn s0 s1 d0 d1 _ HL.out (H.out.below hb1 hhi) (by omega)).mono ?_
    rintro e w2 ⟨v, rfl, ho, hb2'⟩
    have hb2 : Below w.heap.size w w2 := hb1.trans (hb2'.mono hs)
    rw [← HRES.out] at ho
    obtain ⟨A1, c1, rfl, _, _, hr1⟩ := ho.rd
    have HR1 := hide hr1
    clear ho hr1 hb1 hb2' HRES
    have hz : ((R.length : Int) == 0) = false := by rw [beq_eq_false_iff_ne]; omega
    go_wp2
    go_loop [10, 11] (fun s' i => ∃ k : Nat, k ≤ R.length ∧ i = .int .i64 k ∧ s' = .int .i64 (mx (R.take k))) (fun _ i => R.length - (intOf i).toNat)
    case atStart => exact ⟨0, by omega, rfl, by rfl⟩
    case round =>
      obtain ⟨k, hk, rfl, rfl⟩ := hrel
      by_cases hlt : k < R.length
      · have hlen : k < R.length := hlt
        obtain ⟨b, off, rfl, hb1', hb2', hc⟩ := HR1.out.2 (by omega)
        have c0 := hc k _ (rInt64_get R k hlen)
        clear hc
        · skip
          have E := hide (mx_succ hlen)
          generalize R[k] = x at *
          generalize mx (R.take k) = S at *
          by_cases hx : x < S
          all_goals
            go_wp2
            go_round
            case rel => exact ⟨k + 1, by omega, by go_num, by rw [E.out]; exact vint (by split <;> omega)⟩
            case measure => simp [intOf]; omega
      · skip
        obtain rfl : k = R.length := by omega
        rw [List.take_length]
        go_wp2
        go_ret2
        exact ⟨rfl, hb2⟩
  · rw [if_neg h0]
    rcases sp_ne h0 with ⟨hw, hc⟩ | ⟨hw, hnil, hc⟩
    · rw [hc]
      have hne : (wCode l s d != 0) = true := by simpa using hw
      clear hc h0
      go_enter Try.func42, Try.ntmps42
      go_wp2_with fail
      refine (l21Code_any A n c lo hi l s d hn _ HL.out H.out hhi).mono ?_
      rintro e w1 ⟨rfl, hb1⟩
      clear hw
      go_wp2_with fail
      go_ret2
      exact ⟨rfl, hb1⟩
    · rw [hc]
      obtain ⟨_, ⟨s0, s1⟩, d0, d1⟩ := wCode_0 hw
      rw [HL.out] at hnil
      have HW := hide hw
      have HN := hide hnil
      clear hc h0 hw hnil
      go_enter Try.func42, Try.ntmps42
      go_wp2_with fail
      refine (l21Code_any A n c lo hi l s d hn _ HL.out H.out hhi).mono ?_
      rintro e w1 ⟨rfl, hb1⟩
      rw [HW.out]
      have hs := hb1.size
      go_wp2_with fail
      refine (l21Window_any A n c lo hi l s d hn s0 s1 d0 d1 _ HL.out (H.out.below hb1 hhi) (by omega)).mono ?_
      rintro e w2 ⟨v, rfl, ho, hb2'⟩
      rw [HN.out] at ho
      obtain ⟨A1, c1, rfl, _, _, _⟩ := ho.rd
      have hz : (((([] : List Int).length : Nat) : Int) == 0) = true := rfl
      clear ho
      go_wp2
      go_ret2
      exact ⟨rfl, hb1.trans (hb2'.mono hs)⟩

end Go.Proofs.Ytlinjlpcofhdhaa
