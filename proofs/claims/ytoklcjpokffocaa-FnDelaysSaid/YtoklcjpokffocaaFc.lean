/-
  THE FIRST CONFLICT, with the checks: the reference's and the program's. No condition but those that each theorem names.
-/
import Derived.Test.YtoklcjpokffocaaFci
namespace Go.Proofs.Ytoklcjpokffocaa
open Go.RowKit
set_option linter.unusedVariables false

def coM (T : List (List Bool)) (a : Int) (la : List Int) (b : Int) (lb : List Int) : Int := if okT T = true then (if moV a la = true ∧ moV b lb = true then 0 else 1) else 8
def fcV (T : List (List Bool)) (a : Int) (la : List Int) (b : Int) (lb : List Int) : Int := if coM T a la b lb = 0 then fstV T a la b lb else 0
theorem coM_zero {T : List (List Bool)} {a : Int} {la : List Int} {b : Int} {lb : List Int} (h : coM T a la b lb = 0) : okT T = true ∧ moV a la = true ∧ moV b lb = true := by
  unfold coM at h
  split at h
  · rename_i h1
    split at h
    · rename_i h2; exact ⟨h1, h2.1, h2.2⟩
    · omega
  · omega

theorem l16Ok_m {w : World} {b : Nat} {st : Int} {l : List Int} {v : Bool} (hv : moV st l = v) (h : MoAt w b st l) :
    Calls Try.prog 49 #[.pointer (some ⟨b, 0, none⟩)] w fun e w' => e = .returned (.bool v) ∧ w' = w := by
  subst hv
  obtain ⟨A, n, c, lo, hi, hB, hr, hl, hm, hw, hq⟩ := h
  exact l16Ok_any b A n c lo hi st l hl (by unfold maxLen; omega) w hB hr

set_option maxHeartbeats 1000000 in
theorem l16Code_any (A : Option Addr) (n c lo hi : Nat) (T : List (List Bool)) (hm : n ≤ maxLen) (ba bb : Nat) (a b : Int) (la lb : List Int) (w : World) (h : RdSS w lo hi A n (rrBool T)) (hA : MoAt w ba a la) (hB : MoAt w bb b lb) :
    Calls Try.prog 22 #[.slice A n c, .pointer (some ⟨ba, 0, none⟩), .pointer (some ⟨bb, 0, none⟩)] w fun e w' => e = .returned (.int .i64 (coM T a la b lb)) ∧ w' = w := by
  unfold coM
  have HT := hide h
  have HA := hide hA
  have HB := hide hB
  clear h hA hB
  cases h1 : okT T <;> cases h2 : moV a la <;> cases h3 : moV b lb
  all_goals
    have H1 := hide h1
    have H2 := hide h2
    have H3 := hide h3
    clear h1 h2 h3
    go_enter Try.func22, Try.ntmps22
    go_wp2_with (first | (go_at_call 36; refine (l15Ok_any A n c lo hi T hm _ HT.out).mono ?_; rintro e w' ⟨rfl, hw⟩; obtain rfl := hw.symm; rw [H1.out]) | (go_at_call 49; with_reducible refine (l16Ok_m H2.out HA.out).mono ?_; rintro e w' ⟨rfl, hw⟩; obtain rfl := hw.symm) | (go_at_call 49; with_reducible refine (l16Ok_m H3.out HB.out).mono ?_; rintro e w' ⟨rfl, hw⟩; obtain rfl := hw.symm))
    go_ret
    exact ⟨ret_int (by simp), rfl⟩

theorem validM_m (W : World) {A : Option Addr} {n c lo hi : Nat} {st : Int} {l : List Int} {v : Bool} (hv : moV st l = v) (hl : l.length = n) (hm : n ≤ 4096) (hw : hi ≤ W.heap.size) (h : Rd W lo hi 1 A n (rInt64 l)) {w : World} (hb : Below W.heap.size W w) :
    Calls Try.prog 40 #[.agg #[.int .i64 st, .slice A n c]] w fun e w' => e = .returned (.bool v) ∧ Below w.heap.size w w' ∧ Below W.heap.size W w' := by
  subst hv
  refine (implValidMotion_any A n c lo hi st l hl (by unfold maxLen; omega) w (by have := hb.size; omega) (h.below hb hw)).mono ?_
  rintro e w' ⟨rfl, hb'⟩
  exact ⟨rfl, hb', hb.trans (hb'.mono hb.size)⟩

/-- The two boxes of two motions. -/
theorem two_boxes (w : World) (a b : Int) (Aa Ab : Option Addr) (na ca nb cb : Nat) {X : World} (hX : ((w.alloc (.cells #[.int .i64 a, .slice Aa na ca] 27)).alloc (.cells #[.int .i64 b, .slice Ab nb cb] 27)) = X) :
    Below w.heap.size w X ∧ X.heap.size = w.heap.size + 2 ∧ Box X w.heap.size [.int .i64 a, .slice Aa na ca] ∧ Box X (w.heap.size + 1) [.int .i64 b, .slice Ab nb cb] := by
  subst hX
  have B1 := box_new w #[.int .i64 a, .slice Aa na ca] 27
  have B2 := box_new (w.alloc (.cells #[.int .i64 a, .slice Aa na ca] 27)) #[.int .i64 b, .slice Ab nb cb] 27
  rw [World.size_alloc] at B2
  exact ⟨Below.alloc (below_al _ _) (by simp) _, by simp, B1.more _, B2⟩

set_option maxHeartbeats 1000000 in
theorem motionsCode_any (A : Option Addr) (n c lo hi : Nat) (T : List (List Bool)) (hm : n ≤ maxLen) (Aa Ab : Option Addr) (na ca loa hia nb cb lob hib : Nat) (a b : Int) (la lb : List Int) (w : World) (h : RdSS w lo hi A n (rrBool T)) (hw : hi ≤ w.heap.size)
    (hRa : Rd w loa hia 1 Aa na (rInt64 la)) (hna : la.length = na) (hma : na ≤ 4096) (hha : hia ≤ w.heap.size) (hRb : Rd w lob hib 1 Ab nb (rInt64 lb)) (hnb : lb.length = nb) (hmb : nb ≤ 4096) (hhb : hib ≤ w.heap.size) :
    Calls Try.prog 19 #[.slice A n c, .agg #[.int .i64 a, .slice Aa na ca], .agg #[.int .i64 b, .slice Ab nb cb]] w fun e w' => e = .returned (.int .i64 (coM T a la b lb)) ∧ Below w.heap.size w w' := by
  unfold coM
  have HT := hide h
  have HRA := hide hRa
  have HRB := hide hRb
  have HNA := hide hna
  have HNB := hide hnb
  clear h hRa hRb hna hnb
  cases h1 : okT T <;> cases h2 : moV a la <;> cases h3 : moV b lb
  all_goals
    have H1 := hide h1
    have H2 := hide h2
    have H3 := hide h3
    clear h1 h2 h3
    go_enter Try.func19, Try.ntmps19
    go_wp2_with (fail)
    obtain ⟨X, hX⟩ : ∃ X, ((w.alloc (.cells #[.int .i64 a, .slice Aa na ca] 27)).alloc (.cells #[.int .i64 b, .slice Ab nb cb] 27)) = X := ⟨_, rfl⟩
    obtain ⟨hb0, hs0, B1, B2⟩ := two_boxes w a b Aa Ab na ca nb cb hX
    rw [hX]
    have HB0 := hide hb0
    have c0 := B1 0 _ rfl
    have c1 := B1 1 _ rfl
    have d0 := B2 0 _ rfl
    have d1 := B2 1 _ rfl
    have l1 : w.heap.size + 1 < X.heap.size := by omega
    clear hb0 hs0 B1 B2 hX
    refine (implValidTable_any A n c lo hi T hm _ (HT.out.below HB0.out hw)).mono ?_
    rintro e w' ⟨rfl, hw'⟩
    obtain rfl := hw'.symm
    rw [H1.out]
    go_wp2_with (fail)
    try
      refine (validM_m w H2.out HNA.out hma hha HRA.out HB0.out).mono ?_
      rintro e w1 ⟨rfl, hb1, hc1⟩
      replace HB0 := hide hc1
      have d0' := (hb1.cell (p := ⟨w.heap.size + 1, 0, none⟩) l1).trans d0
      have d1' := (hb1.cell (p := ⟨w.heap.size + 1, 1, none⟩) l1).trans d1
      clear d0 d1 c0 c1 hb1 hc1
      go_wp2_with (fail)
    try
      refine (validM_m w H3.out HNB.out hmb hhb HRB.out HB0.out).mono ?_
      rintro e w2 ⟨rfl, hb1, hc1⟩
      replace HB0 := hide hc1
      clear d0' d1' hb1 hc1
      go_wp2_with (fail)
    go_ret
    exact ⟨ret_int (by simp), HB0.out⟩

set_option maxHeartbeats 1000000 in
theorem specFirstConflict_any (A : Option Addr) (n c lo hi : Nat) (T : List (List Bool)) (hm : n ≤ maxLen) (Aa Ab : Option Addr) (na ca loa hia nb cb lob hib : Nat) (a b : Int) (la lb : List Int) (w : World) (h : RdSS w lo hi A n (rrBool T)) (hw : hi ≤ w.heap.size)
    (hRa : Rd w loa hia 1 Aa na (rInt64 la)) (hna : la.length = na) (hma : na ≤ 4096) (hha : hia ≤ w.heap.size) (hRb : Rd w lob hib 1 Ab nb (rInt64 lb)) (hnb : lb.length = nb) (hmb : nb ≤ 4096) (hhb : hib ≤ w.heap.size) :
    Calls Try.prog 10 #[.slice A n c, .agg #[.int .i64 a, .slice Aa na ca], .agg #[.int .i64 b, .slice Ab nb cb]] w fun e w' => e = .returned (.tuple #[.int .i64 (fcV T a la b lb), .int .i64 (coM T a la b lb)]) ∧ Below w.heap.size w w' := by
  have HT := hide h
  have HRA := hide hRa
  have HRB := hide hRb
  have HNA := hide hna
  have HNB := hide hnb
  clear h hRa hRb hna hnb
  obtain ⟨co, hco⟩ : ∃ co, coM T a la b lb = co := ⟨_, rfl⟩
  have HCO := hide hco
  clear hco
  unfold fcV
  rw [HCO.out]
  by_cases h0 : co = 0
  all_goals
    have H0 := hide h0
    go_enter Try.func10, Try.ntmps10
    go_wp2_with (fail)
    obtain ⟨X, hX⟩ : ∃ X, ((w.alloc (.cells #[.int .i64 a, .slice Aa na ca] 27)).alloc (.cells #[.int .i64 b, .slice Ab nb cb] 27)) = X := ⟨_, rfl⟩
    obtain ⟨hb0, hs0, B1, B2⟩ := two_boxes w a b Aa Ab na ca nb cb hX
    rw [hX]
    have HB0 := hide hb0
    have HB1 := hide B1
    have HB2 := hide B2
    have HMA : Hid (MoAt X w.heap.size a la) := hide ⟨Aa, na, ca, loa, hia, HB1.out, HRA.out.below HB0.out hha, HNA.out, hma, by omega, by omega⟩
    have HMB : Hid (MoAt X (w.heap.size + 1) b lb) := hide ⟨Ab, nb, cb, lob, hib, HB2.out, HRB.out.below HB0.out hhb, HNB.out, hmb, by omega, by omega⟩
    have HT2 := hide (HT.out.below HB0.out hw)
    clear hb0 B1 B2 hX
    refine (l16Code_any A n c lo hi T hm _ _ a b la lb _ HT2.out HMA.out HMB.out).mono ?_
    rintro e w' ⟨rfl, hw'⟩
    obtain rfl := hw'.symm
    rw [HCO.out]
    clear h0
  · obtain ⟨ok, va, vb⟩ := coM_zero (HCO.out.trans H0.out)
    have OK := hide ok
    have VA := hide va
    have VB := hide vb
    clear ok va vb
    have h0 := H0.out
    subst h0
    go_wp2_with (fail)
    refine (l16First_any A n c lo hi T OK.out _ _ a b la lb VA.out VB.out _ HT2.out (by omega) HMA.out HMB.out).mono ?_
    rintro e w' ⟨rfl, hw'⟩
    go_wp2_with (fail)
    go_ret2
    exact ⟨rfl, HB0.out.trans (hw'.mono (by omega))⟩
  · have h0 : ¬ co = 0 := H0.out
    go_wp2_with (fail)
    go_ret2
    exact ⟨rfl, HB0.out⟩

set_option maxHeartbeats 1000000 in
theorem implFirstConflict_any (A : Option Addr) (n c lo hi : Nat) (T : List (List Bool)) (hm : n ≤ maxLen) (Aa Ab : Option Addr) (na ca loa hia nb cb lob hib : Nat) (a b : Int) (la lb : List Int) (w : World) (h : RdSS w lo hi A n (rrBool T)) (hw : hi ≤ w.heap.size)
    (hRa : Rd w loa hia 1 Aa na (rInt64 la)) (hna : la.length = na) (hma : na ≤ 4096) (hha : hia ≤ w.heap.size) (hRb : Rd w lob hib 1 Ab nb (rInt64 lb)) (hnb : lb.length = nb) (hmb : nb ≤ 4096) (hhb : hib ≤ w.heap.size) :
    Calls Try.prog 9 #[.slice A n c, .agg #[.int .i64 a, .slice Aa na ca], .agg #[.int .i64 b, .slice Ab nb cb]] w fun e w' => e = .returned (.tuple #[.int .i64 (fcV T a la b lb), .int .i64 (coM T a la b lb)]) ∧ Below w.heap.size w w' := by
  have HT := hide h
  have HRA := hide hRa
  have HRB := hide hRb
  have HNA := hide hna
  have HNB := hide hnb
  clear h hRa hRb hna hnb
  obtain ⟨co, hco⟩ : ∃ co, coM T a la b lb = co := ⟨_, rfl⟩
  have HCO := hide hco
  clear hco
  unfold fcV
  rw [HCO.out]
  by_cases h0 : co = 0
  all_goals
    have H0 := hide h0
    clear h0
    go_enter Try.func9, Try.ntmps9
    go_upto_region 1 with fail
    obtain ⟨X, hX⟩ : ∃ X, ((w.alloc (.cells #[.int .i64 a, .slice Aa na ca] 27)).alloc (.cells #[.int .i64 b, .slice Ab nb cb] 27)) = X := ⟨_, rfl⟩
    obtain ⟨hb0, hs0, B1, B2⟩ := two_boxes w a b Aa Ab na ca nb cb hX
    rw [hX]
    have HB0 := hide hb0
    have HB1 := hide B1
    have HB2 := hide B2
    have c0 := B1 0 _ rfl
    have c1 := B1 1 _ rfl
    have d0 := B2 0 _ rfl
    have d1 := B2 1 _ rfl
    clear hb0 B1 B2 hX
    go_wp2_with (fail)
    refine (motionsCode_any A n c lo hi T hm Aa Ab na ca loa hia nb cb lob hib a b la lb _ (HT.out.below HB0.out hw) (by omega) (HRA.out.below HB0.out hha) HNA.out hma (by omega) (HRB.out.below HB0.out hhb) HNB.out hmb (by omega)).mono ?_
    rintro e w1 ⟨rfl, hb1⟩
    rw [HCO.out]
    have hs1 := hb1.size
    have HB3 := hide (HB0.out.trans (hb1.mono (by omega)))
    have c0' := (hb1.cell (p := ⟨w.heap.size, 0, none⟩) (by show w.heap.size < _; omega)).trans c0
    have c1' := (hb1.cell (p := ⟨w.heap.size, 1, none⟩) (by show w.heap.size < _; omega)).trans c1
    have d0' := (hb1.cell (p := ⟨w.heap.size + 1, 0, none⟩) (by show w.heap.size + 1 < _; omega)).trans d0
    have d1' := (hb1.cell (p := ⟨w.heap.size + 1, 1, none⟩) (by show w.heap.size + 1 < _; omega)).trans d1
    clear c0 c1 d0 d1 hb1 HB0 HB1 HB2
  · obtain ⟨ok, va, vb⟩ := coM_zero (HCO.out.trans H0.out)
    have OK := hide ok
    have VA := hide va
    have VB := hide vb
    clear ok va vb
    have h0 := H0.out
    subst h0
    go_wp2_with (fail)
    refine (firstConflict_any A n c lo hi T OK.out Aa Ab na ca loa hia nb cb lob hib a b la lb VA.out VB.out _ (HT.out.below HB3.out hw) (by omega) (HRA.out.below HB3.out hha) HNA.out (by omega) (HRB.out.below HB3.out hhb) HNB.out (by omega)).mono ?_
    rintro e w' ⟨rfl, hw'⟩
    go_wp2_with (fail)
    go_ret2
    exact ⟨rfl, HB3.out.trans (hw'.mono (by omega))⟩
  · have h0 : ¬ co = 0 := H0.out
    go_wp2_with (fail)
    go_ret2
    exact ⟨rfl, HB3.out⟩
end Go.Proofs.Ytoklcjpokffocaa
