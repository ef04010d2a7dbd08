/-
  NAMES: is a text a name: the reference's and the program's. No condition but those that each theorem names.
-/
import Derived.Test.YtajjophmngabbaaGreatDoorNum
namespace Go.Proofs.YtajjophmngabbaaGreatDoor
open Go.RowKit
set_option linter.unusedVariables false

def smN (c : Int) : Bool := decide (97 ≤ c) && decide (c ≤ 122)
def dgN (c : Int) : Bool := decide (48 ≤ c) && decide (c ≤ 57)
/-- May the k-th byte of a name be this? -/
def okN (k : Nat) (c : Int) : Bool := smN c || (k != 0 && (dgN c || c == 45))
def bt (s : ByteArray) (k : Nat) : Int := if h : k < s.size then (s[k].toNat : Int) else 0
theorem bt_at {s : ByteArray} {k : Nat} (h : k < s.size) : bt s k = (s[k].toNat : Int) := by simp [bt, h]
def nmB (s : ByteArray) : Bool := decide (1 ≤ s.size) && (decide (s.size ≤ 12) && (List.range s.size).all fun j => okN j (bt s j))
theorem nmB_no {s : ByteArray} {k : Nat} (hk : k < s.size) (h : okN k (bt s k) = false) : nmB s = false := by
  have : (List.range s.size).all (fun j => okN j (bt s j)) = false := by rw [List.all_eq_false]; exact ⟨k, by simpa using hk, by simp [h]⟩
  unfold nmB; rw [this]; simp
theorem nmB_end {s : ByteArray} (h : ∀ j, j < s.size → okN j (bt s j) = true) : nmB s = (decide (1 ≤ s.size) && decide (s.size ≤ 12)) := by
  unfold nmB; rw [List.all_eq_true.2 (fun j hj => h j (by simpa using hj)), Bool.and_true]
theorem nmB_big {s : ByteArray} (h : 12 < s.size) : nmB s = false := by
  unfold nmB; rw [show decide (s.size ≤ 12) = false by simp; omega]; simp
theorem nmB_nil {s : ByteArray} (h : s.size = 0) : nmB s = false := by
  unfold nmB; rw [h]; rfl
theorem okN_more {s : ByteArray} {k : Nat} (h : ∀ j, j < k → okN j (bt s j) = true) (hk : okN k (bt s k) = true) : ∀ j, j < k + 1 → okN j (bt s j) = true := by
  intro j hj
  rcases Nat.lt_or_ge j k with h1 | h1
  · exact h j h1
  · obtain rfl : j = k := by omega
    exact hk

set_option maxRecDepth 100000 in
set_option maxHeartbeats 2000000 in
theorem l01Small_any (c : Nat) (w : World) :
    Calls Tryz.prog 88 #[.int .u8 (c : Int)] w fun e w' => e = .returned (.bool (smN (c : Int))) ∧ w' = w := by
  unfold smN
  go_enter Tryz.func88, Tryz.ntmps88
  go_wp2_with fail
  all_goals (go_ret; exact ⟨ret_bool (by simp [*]; try omega), rfl⟩)

set_option maxRecDepth 100000 in
set_option maxHeartbeats 2000000 in
theorem l01Small_is {c : Nat} {b : Bool} (h : smN (c : Int) = b) {w : World} :
    Calls Tryz.prog 88 #[.int .u8 (c : Int)] w fun e w' => e = .returned (.bool b) ∧ w' = w := by
  rw [← h]; exact l01Small_any c w

set_option maxRecDepth 100000 in
set_option maxHeartbeats 2000000 in
theorem l01Digit_any (c : Nat) (w : World) :
    Calls Tryz.prog 89 #[.int .u8 (c : Int)] w fun e w' => e = .returned (.bool (dgN (c : Int))) ∧ w' = w := by
  unfold dgN
  go_enter Tryz.func89, Tryz.ntmps89
  go_wp2_with fail
  all_goals (go_ret; exact ⟨ret_bool (by simp [*]; try omega), rfl⟩)

set_option maxRecDepth 100000 in
set_option maxHeartbeats 2000000 in
theorem l01Digit_is {c : Nat} {b : Bool} (h : dgN (c : Int) = b) {w : World} :
    Calls Tryz.prog 89 #[.int .u8 (c : Int)] w fun e w' => e = .returned (.bool b) ∧ w' = w := by
  rw [← h]; exact l01Digit_any c w

set_option maxRecDepth 100000 in
set_option maxHeartbeats 2000000 in
theorem implIsName_any (s : ByteArray) (hs : s.size ≤ maxLen) (w : World) :
    Calls Tryz.prog 75 #[.string s] w fun e w' => e = .returned (.bool (nmB s)) ∧ w = w' := by
  unfold maxLen at hs
  go_enter Tryz.func75, Tryz.ntmps75
  go_wp2
  go_loop [8] (fun i => ∃ k : Nat, k ≤ s.size ∧ i = .int .i64 k ∧ Hid (∀ j, j < k → okN j (bt s j) = true)) (fun i => s.size - (intOf i).toNat)
  case atStart => exact ⟨0, by omega, rfl, hide (fun j hj => absurd hj (by omega))⟩
  case round =>
    obtain ⟨k, hk, rfl, hok⟩ := hrel
    by_cases hlt : k < s.size
    · have HB := hide (bt_at hlt)
      have HYES : Hid (okN k (s[k].toNat : Int) = true → ∀ j, j < k + 1 → okN j (bt s j) = true) := hide (fun e => okN_more hok.out (by rw [HB.out]; exact e))
      have HNO : Hid (okN k (s[k].toNat : Int) = false → nmB s = false) := hide (fun e => nmB_no hlt (by rw [HB.out]; exact e))
      clear HB hok
      have hc0 : s[k].toNat < 256 := s[k].toNat_lt
      obtain ⟨c, hcc⟩ : ∃ c : Nat, s[k].toNat = c := ⟨_, rfl⟩
      rw [hcc] at HYES HNO hc0
      have HCC := hide hcc
      clear hcc
      by_cases h97 : 97 ≤ c
      · skip
        by_cases h122 : c ≤ 122
        · skip
          clear HNO
          have g0 : decide (97 ≤ (s[k].toNat : Int)) = true := by rw [HCC.out]; first | (simp; done) | (simp; omega)
          have g1 : decide ((s[k].toNat : Int) ≤ 122) = true := by rw [HCC.out]; first | (simp; done) | (simp; omega)
          go_wp2_with fail
          go_round
          case rel => exact ⟨k + 1, by omega, by go_num, hide (HYES.out (by simp [okN, smN, dgN]; omega))⟩
          case measure => simp [intOf]; omega
        · skip
          by_cases zb : k = 0
          · skip
            clear HYES
            have g0 : decide (97 ≤ (s[k].toNat : Int)) = true := by rw [HCC.out]; first | (simp; done) | (simp; omega)
            have g1 : decide ((s[k].toNat : Int) ≤ 122) = false := by rw [HCC.out]; first | (simp; done) | (simp; omega)
            have gz : ((k : Int) == 0) = true := by first | (simp; done) | (simp; omega)
            have zb' := hide zb
            clear zb
            go_wp2_with fail
            go_ret
            exact ⟨ret_bool (HNO.out (by have zb := zb'.out; simp [okN, smN, dgN]; omega)).symm, rfl⟩
          · skip
            clear HYES
            have g0 : decide (97 ≤ (s[k].toNat : Int)) = true := by rw [HCC.out]; first | (simp; done) | (simp; omega)
            have g1 : decide ((s[k].toNat : Int) ≤ 122) = false := by rw [HCC.out]; first | (simp; done) | (simp; omega)
            have g2 : ((s[k].toNat : Int) != 45) = true := by rw [HCC.out]; first | (simp; done) | (simp; omega)
            have g3 : decide ((s[k].toNat : Int) < 48) = false := by rw [HCC.out]; first | (simp; done) | (simp; omega)
            have g4 : decide (57 < (s[k].toNat : Int)) = true := by rw [HCC.out]; first | (simp; done) | (simp; omega)
            have gz : ((k : Int) == 0) = false := by first | (simp; done) | (simp; omega)
            go_wp2_with fail
            go_ret
            exact ⟨ret_bool (HNO.out (by simp [okN, smN, dgN]; omega)).symm, rfl⟩
      · skip
        by_cases za : k = 0
        · skip
          clear HYES
          have g0 : decide (97 ≤ (s[k].toNat : Int)) = false := by rw [HCC.out]; first | (simp; done) | (simp; omega)
          have gz : ((k : Int) == 0) = true := by first | (simp; done) | (simp; omega)
          have za' := hide za
          clear za
          go_wp2_with fail
          go_ret
          exact ⟨ret_bool (HNO.out (by have za := za'.out; simp [okN, smN, dgN]; omega)).symm, rfl⟩
        · skip
          by_cases ya : c = 45
          · skip
            clear HNO
            have g0 : decide (97 ≤ (s[k].toNat : Int)) = false := by rw [HCC.out]; first | (simp; done) | (simp; omega)
            have g1 : ((s[k].toNat : Int) != 45) = false := by rw [HCC.out]; first | (simp; done) | (simp; omega)
            have gz : ((k : Int) == 0) = false := by first | (simp; done) | (simp; omega)
            have ya' := hide ya
            clear ya
            go_wp2_with fail
            go_round
            case rel => exact ⟨k + 1, by omega, by go_num, hide (HYES.out (by have ya := ya'.out; simp [okN, smN, dgN]; omega))⟩
            case measure => simp [intOf]; omega
          · skip
            by_cases xa : c < 48
            · skip
              clear HYES
              have g0 : decide (97 ≤ (s[k].toNat : Int)) = false := by rw [HCC.out]; first | (simp; done) | (simp; omega)
              have g1 : ((s[k].toNat : Int) != 45) = true := by rw [HCC.out]; first | (simp; done) | (simp; omega)
              have g2 : decide ((s[k].toNat : Int) < 48) = true := by rw [HCC.out]; first | (simp; done) | (simp; omega)
              have gz : ((k : Int) == 0) = false := by first | (simp; done) | (simp; omega)
              go_wp2_with fail
              go_ret
              exact ⟨ret_bool (HNO.out (by simp [okN, smN, dgN]; omega)).symm, rfl⟩
            · skip
              by_cases wa : 57 < c
              · skip
                clear HYES
                have g0 : decide (97 ≤ (s[k].toNat : Int)) = false := by rw [HCC.out]; first | (simp; done) | (simp; omega)
                have g1 : ((s[k].toNat : Int) != 45) = true := by rw [HCC.out]; first | (simp; done) | (simp; omega)
                have g2 : decide ((s[k].toNat : Int) < 48) = false := by rw [HCC.out]; first | (simp; done) | (simp; omega)
                have g3 : decide (57 < (s[k].toNat : Int)) = true := by rw [HCC.out]; first | (simp; done) | (simp; omega)
                have gz : ((k : Int) == 0) = false := by first | (simp; done) | (simp; omega)
                go_wp2_with fail
                go_ret
                exact ⟨ret_bool (HNO.out (by simp [okN, smN, dgN]; omega)).symm, rfl⟩
              · skip
                clear HNO
                have g0 : decide (97 ≤ (s[k].toNat : Int)) = false := by rw [HCC.out]; first | (simp; done) | (simp; omega)
                have g1 : ((s[k].toNat : Int) != 45) = true := by rw [HCC.out]; first | (simp; done) | (simp; omega)
                have g2 : decide ((s[k].toNat : Int) < 48) = false := by rw [HCC.out]; first | (simp; done) | (simp; omega)
                have g3 : decide (57 < (s[k].toNat : Int)) = false := by rw [HCC.out]; first | (simp; done) | (simp; omega)
                have gz : ((k : Int) == 0) = false := by first | (simp; done) | (simp; omega)
                go_wp2_with fail
                go_round
                case rel => exact ⟨k + 1, by omega, by go_num, hide (HYES.out (by simp [okN, smN, dgN]; omega))⟩
                case measure => simp [intOf]; omega
    · obtain rfl : k = s.size := by omega
      have E := hide (nmB_end hok.out)
      clear hok
      by_cases q1 : 1 ≤ s.size
      · by_cases q2 : s.size ≤ 12
        all_goals (go_wp2_with fail; go_ret; exact ⟨ret_bool (by rw [E.out]; simp [q1, q2]; try omega), rfl⟩)
      · have q3 : s.size = 0 := by omega
        have Q3 := hide q3
        have q4 : ¬ (1 ≤ (s.size : Int)) := by omega
        clear q3
        go_wp2_with fail
        go_ret
        exact ⟨ret_bool (by rw [E.out, Q3.out]; rfl), rfl⟩

set_option maxRecDepth 100000 in
set_option maxHeartbeats 2000000 in
theorem specIsName_any (s : ByteArray) (hs : s.size ≤ maxLen) (w : World) :
    Calls Tryz.prog 65 #[.string s] w fun e w' => e = .returned (.bool (nmB s)) ∧ w = w' := by
  unfold maxLen at hs
  by_cases h0 : s.size = 0
  · have hE : s.toList = [] := by rw [ByteArray.toList_eq]; exact List.eq_nil_of_length_eq_zero (by simpa using h0)
    have hE2 : s.toList.isEmpty = true := by rw [hE]; rfl
    have HV := hide (nmB_nil h0)
    clear h0
    go_enter Tryz.func65, Tryz.ntmps65
    go_wp2_with fail
    go_ret
    exact ⟨ret_bool HV.out.symm, rfl⟩
  have hp : 0 < s.size := by omega
  have hE : ¬ s.toList = [] := by rw [ByteArray.toList_eq]; intro e; have := congrArg List.length e; simp at this; exact absurd this (by intro e2; exact h0 (by simp [ByteArray.size, e2]))
  have hE2 : s.toList.isEmpty = false := by simpa using hE
  clear h0
  by_cases h12 : 12 < s.size
  · have HV := hide (nmB_big h12)
    go_enter Tryz.func65, Tryz.ntmps65
    go_wp2_with fail
    go_ret
    exact ⟨ret_bool HV.out.symm, rfl⟩
  have h12' : ¬ 12 < (s.size : Int) := by omega
  have hd12 : decide (12 < (s.size : Int)) = false := by simp; omega
  have hpi : (0 : Int) < s.size := by omega
  have HB0 := hide (bt_at hp)
  have HT : Hid (decide (1 ≤ s.size) && decide (s.size ≤ 12) = true) := hide (by simp; omega)
  cases e0 : smN (s[0].toNat : Int)
  case false =>
    have HV : Hid (nmB s = false) := hide (nmB_no hp (by rw [HB0.out]; simp [okN, e0]))
    go_enter Tryz.func65, Tryz.ntmps65
    go_wp2_with (go_at_call 88; (with_reducible refine (l01Small_is e0).mono ?_); rintro e w' ⟨rfl, rfl⟩)
    go_ret
    exact ⟨ret_bool HV.out.symm, rfl⟩
  have HS0 : Hid (okN 0 (bt s 0) = true) := hide (by rw [HB0.out]; simp [okN, e0])
  go_enter Tryz.func65, Tryz.ntmps65
  go_wp2_with (go_at_call 88; (with_reducible refine (l01Small_is e0).mono ?_); rintro e w' ⟨rfl, rfl⟩)
  clear e0
  go_loop [3] (fun i => ∃ k : Nat, k ≤ s.size ∧ i = .int .i64 k ∧ Hid (∀ j, j < k → okN j (bt s j) = true)) (fun i => s.size - (intOf i).toNat)
  case atStart => exact ⟨0, by omega, rfl, hide (fun j hj => absurd hj (by omega))⟩
  case round =>
    obtain ⟨k, hk, rfl, hok⟩ := hrel
    by_cases hlt : k < s.size
    · have HB := hide (bt_at hlt)
      have HK : Hid (okN k (s[k].toNat : Int) = (smN (s[k].toNat : Int) || dgN (s[k].toNat : Int) || ((s[k].toNat : Int) == 45))) := hide (by rcases Nat.eq_zero_or_pos k with hz | hz; subst hz; have h1 := HS0.out; rw [HB.out] at h1; rw [h1]; (have h2 : smN (s[0].toNat : Int) = true := by simpa [okN] using h1); rw [h2]; rfl; (unfold okN; have hk0 : (k != 0) = true := by simp; omega); rw [hk0]; simp [Bool.or_assoc])
      have HYES : Hid (okN k (s[k].toNat : Int) = true → ∀ j, j < k + 1 → okN j (bt s j) = true) := hide (fun e => okN_more hok.out (by rw [HB.out]; exact e))
      have HNO : Hid (okN k (s[k].toNat : Int) = false → nmB s = false) := hide (fun e => nmB_no hlt (by rw [HB.out]; exact e))
      clear HB hok
      cases e1 : smN (s[k].toNat : Int)
      case true =>
        have HV : Hid (okN k (s[k].toNat : Int) = true) := hide (by rw [HK.out, e1]; rfl)
        clear HK
        go_wp2_with (first | (go_at_call 88; (with_reducible refine (l01Small_is e1).mono ?_); rintro e w' ⟨rfl, rfl⟩))
        go_round
        case rel => exact ⟨k + 1, by omega, by go_num, hide (HYES.out HV.out)⟩
        case measure => simp [intOf]; omega
      cases e2 : dgN (s[k].toNat : Int)
      case true =>
        have HV : Hid (okN k (s[k].toNat : Int) = true) := hide (by rw [HK.out, e1, e2]; rfl)
        clear HK
        go_wp2_with (first | (go_at_call 88; (with_reducible refine (l01Small_is e1).mono ?_); rintro e w' ⟨rfl, rfl⟩) | (go_at_call 89; (with_reducible refine (l01Digit_is e2).mono ?_); rintro e w' ⟨rfl, rfl⟩))
        go_round
        case rel => exact ⟨k + 1, by omega, by go_num, hide (HYES.out HV.out)⟩
        case measure => simp [intOf]; omega
      cases e3 : ((s[k].toNat : Int) == 45)
      case true =>
        have e4 : ((s[k].toNat : Int) != 45) = false := by simpa using e3
        have HV : Hid (okN k (s[k].toNat : Int) = true) := hide (by rw [HK.out, e1, e2, e3]; rfl)
        clear HK e3
        go_wp2_with (first | (go_at_call 88; (with_reducible refine (l01Small_is e1).mono ?_); rintro e w' ⟨rfl, rfl⟩) | (go_at_call 89; (with_reducible refine (l01Digit_is e2).mono ?_); rintro e w' ⟨rfl, rfl⟩))
        go_round
        case rel => exact ⟨k + 1, by omega, by go_num, hide (HYES.out HV.out)⟩
        case measure => simp [intOf]; omega
      have e4 : ((s[k].toNat : Int) != 45) = true := by simpa using e3
      have HV : Hid (okN k (s[k].toNat : Int) = false) := hide (by rw [HK.out, e1, e2, e3]; rfl)
      clear HK e3
      go_wp2_with (first | (go_at_call 88; (with_reducible refine (l01Small_is e1).mono ?_); rintro e w' ⟨rfl, rfl⟩) | (go_at_call 89; (with_reducible refine (l01Digit_is e2).mono ?_); rintro e w' ⟨rfl, rfl⟩))
      go_ret
      exact ⟨ret_bool (HNO.out HV.out).symm, rfl⟩
    · obtain rfl : k = s.size := by omega
      have E : Hid (nmB s = true) := hide (by rw [nmB_end hok.out]; simp; omega)
      clear hok
      go_wp2_with fail
      go_ret
      exact ⟨ret_bool E.out.symm, rfl⟩

end Go.Proofs.YtajjophmngabbaaGreatDoor
