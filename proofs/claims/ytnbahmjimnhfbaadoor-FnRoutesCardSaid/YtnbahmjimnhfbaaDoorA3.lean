/-
  WHAT THE LAW ON ROUTES CALLS BESIDES: allowed steps that only draw, two equal lists of two. No condition but those that each theorem names.
-/
import Derived.Test.YtnbahmjimnhfbaaDoorA2
import Derived.Test.YtnbahmjimnhfbaaDoorRtW
import Derived.Test.YtnbahmjimnhfbaaDoorCnt
import Derived.Test.YtnbahmjimnhfbaaDoorSteps
import Derived.Test.YtnbahmjimnhfbaaDoorMarkSB
import Derived.Test.YtnbahmjimnhfbaaDoorRo
namespace Go.Proofs.YtnbahmjimnhfbaaDoor
open Go.RowKit
set_option linter.unusedVariables false
set_option linter.unusedSimpArgs false

set_option maxRecDepth 100000 in
set_option maxHeartbeats 4000000 in
theorem specStepAllowed_q (A A1 A2 : Option Addr) (n c c1 c2 lo hi l1 h1 l2 h2 : Nat) (T : List (List Bool)) (hm : n ≤ maxLen) (ok : okT T = true) (x y z u : Int) (hx : dirOk x) (hy : dirOk y) (hz : dirOk z) (hu : dirOk u) (hst : stp T x y z u = true) (w : World) (h : RdSS w lo hi A n (rrBool T)) (hs : Rd w l1 h1 1 A1 2 (rInt64 [x, y])) (ht : Rd w l2 h2 1 A2 2 (rInt64 [z, u])) :
    Calls Tryd.prog 12 #[.slice A n c, .slice A1 2 c1, .slice A2 2 c2] w fun e w' => e = .returned (.bool true) ∧ ∃ m, w' = w.drewN m := by
  obtain ⟨bs, os, rfl, _, _, s0, s1⟩ := st_cells hs
  obtain ⟨bt, ot, rfl, _, _, t0, t1⟩ := st_cells ht
  obtain ⟨hx0, hx1⟩ := id hx
  obtain ⟨hy0, hy1⟩ := id hy
  obtain ⟨hz0, hz1⟩ := id hz
  obtain ⟨hu0, hu1⟩ := id hu
  have H2 := hide h
  have HO := hide ok
  have HS := hide hs
  have HT := hide ht
  have HST := hide hst
  clear h ok hs ht hst
  go_enter Tryd.func12, Tryd.ntmps12
  go_wp2_with fail
  go_quiet (first | (go_at_call 29; with_reducible exact Calls.quiet_of_same (l15Ok_yes A n c lo hi T hm HO.out _ (RdSS.drewN H2.out _))) | (go_at_call 30; with_reducible first | exact Calls.quiet_of_same (l17State_yes (some ⟨bs, os, none⟩) c1 l1 h1 x y hx hy _ (RdDn HS.out _)) | exact Calls.quiet_of_same (l17State_yes (some ⟨bt, ot, none⟩) c2 l2 h2 z u hz hu _ (RdDn HT.out _))) | (go_at_call 31; with_reducible exact Calls.quiet_of_same (l17Step_any A n c lo hi T HO.out x y z u hx0 hx1 hy0 hy1 hz0 hz1 hu0 hu1 _ (RdSS.drewN H2.out _))))
  rw [HST.out]
  go_wp2_with fail
  go_ret
  exact ⟨rfl, _, rfl⟩

set_option maxRecDepth 100000 in
set_option maxHeartbeats 1000000 in
theorem a2Same_two (A A1 : Option Addr) (c c1 lo hi l1 h1 : Nat) (x y : Int) (w : World) (h : Rd w lo hi 1 A 2 (rInt64 [x, y])) (hs : Rd w l1 h1 1 A1 2 (rInt64 [x, y])) :
    Calls Tryd.prog 10 #[.slice A 2 c, .slice A1 2 c1] w fun e w' => e = .returned (.bool true) ∧ Below w.heap.size w w' := by
  have H1 := hide h
  have H2 := hide hs
  clear h hs
  go_enter Tryd.func10, Tryd.ntmps10
  go_wp2_with fail
  go_loopw [5] (fun i wr => ∃ k m : Nat, k ≤ 2 ∧ i = .int .i64 k ∧ Hid (wr = w.drewN m)) (fun i _ => 2 - (intOf i).toNat)
  case atStart => exact ⟨0, 0, by omega, rfl, hide rfl⟩
  case round =>
    obtain ⟨k, m, hk, rfl, HM⟩ := hrel
    have K1 := RdDn H1.out m
    have K2 := RdDn H2.out m
    rw [← HM.out] at K1 K2
    obtain ⟨bs, os, rfl, _, _, s0, s1⟩ := st_cells K1
    obtain ⟨bt, ot, rfl, _, _, t0, t1⟩ := st_cells K2
    clear K1 K2
    by_cases h2 : k = 2
    · subst h2
      go_wp2_with fail
      go_ret
      exact ⟨rfl, by rw [HM.out]; exact Joins.below_draws _ _ _⟩
    · rcases (show k = 0 ∨ k = 1 by omega) with rfl | rfl
      · go_wp2_with fail
        go_quiet (fail)
        go_wp2_with fail
        go_roundw
        case rel => exact ⟨1, m + nq, by omega, by first | rfl | go_num, hide (by rw [HM.out, World.drewN_drewN])⟩
        case measure => first | (simp [intOf]; done) | (simp [intOf]; omega)
      · go_wp2_with fail
        go_quiet (fail)
        go_wp2_with fail
        go_roundw
        case rel => exact ⟨2, m + nq, by omega, by first | rfl | go_num, hide (by rw [HM.out, World.drewN_drewN])⟩
        case measure => first | (simp [intOf]; done) | (simp [intOf]; omega)
/-- The route's text is not empty. -/
theorem rouP_pos {R : List (List Int)} {x y : Int} (h : R.getD 0 [] = [x, y]) : ∀ k : Nat, 1 ≤ (rouP R (k + 1)).length
  | 0 => by
    show 1 ≤ (jn _ _ (0 + 1)).length
    rw [jn, if_pos rfl, h, ← rowP_T]
    show 1 ≤ ([] ++ jn _ _ (1 + 1)).length
    rw [jn, if_neg (by omega)]
    simp
    omega
  | k + 1 => by
    have ih := rouP_pos h k
    show 1 ≤ (jn _ _ (k + 1 + 1)).length
    rw [jn, if_neg (by omega)]
    have e : (jn 32 (fun i => rowT (R.getD i [])) (k + 1)).length = (rouP R (k + 1)).length := rfl
    simp only [List.length_append, e]
    omega
theorem rou_ne {R : List (List Int)} {x y : Int} (h : R.getD 0 [] = [x, y]) (hl : 0 < R.length) : rouS R ≠ ⟨#[]⟩ := by
  intro e
  have h1 := rouP_pos h (R.length - 1)
  rw [show R.length - 1 + 1 = R.length by omega] at h1
  have h2 : (rouS R).size = (rouP R R.length).length := bstr_size _
  rw [e] at h2
  have h3 : (⟨#[]⟩ : ByteArray).size = 0 := rfl
  omega
theorem rt_all {T : List (List Bool)} {a b c d : Int} (ha : dirOk a) (hb : dirOk b) (hc : dirOk c) (hd : dirOk d) {N : Nat} (hf : tg T c d = false) (hN : dget (lens T (c, d)) a b = N) : allI (rtTo T (lens T (c, d)) (a, b) (N + 1)) := by
  intro r hr p hp
  obtain ⟨i, hi, rfl⟩ := List.mem_iff_getElem.1 hr
  have hl : i < N + 1 := by rw [rtTo_len] at hi; exact hi
  obtain ⟨x, y, e1, _, hx, hy, _⟩ := rt_row ha hb hc hd hf hN (show i ≤ N by omega)
  have e : (rtTo T (lens T (c, d)) (a, b) (N + 1))[i] = [x, y] := by rw [← e1]; simp [List.getD, hi]
  rw [e] at hp
  unfold J64
  have := hx.1; have := hx.2; have := hy.1; have := hy.2
  rcases List.mem_cons.1 hp with rfl | hp
  · omega
  · obtain rfl : p = y := by simpa using hp
    omega
/-- What is asked of the route that is found. -/
structure RtF (T : List (List Bool)) (a b c d : Int) (N : Nat) (R : List (List Int)) : Prop where
  len : R.length = N + 1
  small : N < 576
  first : R.getD 0 [] = [a, b]
  last : R.getD N [] = [c, d]
  row : ∀ i, i ≤ N → ∃ x y : Int, R.getD i [] = [x, y] ∧ dirOk x ∧ dirOk y
  step : ∀ i, i < N → ∀ x y z u : Int, R.getD i [] = [x, y] → R.getD (i + 1) [] = [z, u] → stp T x y z u = true
  chk : crP T R = (-1, 0)
  all : allI R
  ne : rouS R ≠ ⟨#[]⟩
  tot : N + 1 + tot (rrInt64 R) (N + 1) ≤ 1048576
theorem route_good {T : List (List Bool)} {a b c d : Int} (ok : okT T = true) (ha : dirOk a) (hb : dirOk b) (hc : dirOk c) (hd : dirOk d) (h : frC T [a, b] [c, d] = 0) :
    ∃ N : Nat, tg T a b = false ∧ (rlP T [a, b] [c, d]).1 = N ∧ dget (lens T (a, b)) c d = N ∧ RtF T a b c d N (frL T [a, b] [c, d]) := by
  obtain ⟨N, h5, hf, hg, e0, e1, e2, e3⟩ := rt_good ok ha hb hc hd h
  refine ⟨N, hf, e0, e1, ?_⟩
  rw [e3]
  have hlen : (rtTo T (lens T (c, d)) (a, b) (N + 1)).length = N + 1 := rtTo_len _ _ _ _
  have hfirst : (rtTo T (lens T (c, d)) (a, b) (N + 1)).getD 0 [] = [a, b] := by
    obtain ⟨x, y, f1, f2, _⟩ := rt_row ha hb hc hd hg e2 (Nat.zero_le N)
    rw [rt_first] at f2
    rw [Prod.mk.injEq] at f2
    rw [f1, ← f2.1, ← f2.2]
  have hrow : ∀ i, i ≤ N → ∃ x y : Int, (rtTo T (lens T (c, d)) (a, b) (N + 1)).getD i [] = [x, y] ∧ dirOk x ∧ dirOk y := fun i hi => by
    obtain ⟨x, y, f1, f2, f3, f4, _⟩ := rt_row ha hb hc hd hg e2 hi
    exact ⟨x, y, f1, f3, f4⟩
  refine ⟨hlen, h5, hfirst, ?_, hrow, ?_, rt_check ok ha hb hc hd h5 hg e2, rt_all ha hb hc hd hg e2, rou_ne hfirst (by omega), ?_⟩
  · obtain ⟨x, y, f1, f2, _⟩ := rt_row ha hb hc hd hg e2 (Nat.le_refl N)
    rw [rt_last ha hb hc hd e2, Prod.mk.injEq] at f2
    rw [f1, ← f2.1, ← f2.2]
  · intro i hi x y z u g1 g2
    obtain ⟨x', y', f1, f2, _⟩ := rt_row ha hb hc hd hg e2 (show i ≤ N by omega)
    obtain ⟨z', u', k1, k2, _⟩ := rt_row ha hb hc hd hg e2 (show i + 1 ≤ N by omega)
    rw [f1] at g1
    rw [k1] at g2
    simp only [List.cons.injEq, and_true] at g1 g2
    obtain ⟨p1, p2⟩ := g1
    obtain ⟨p3, p4⟩ := g2
    rw [p1, p2] at f2
    rw [p3, p4] at k2
    exact rt_step ha hb hc hd e2 hi f2 k2
  · have hr2 : ∀ r ∈ rtTo T (lens T (c, d)) (a, b) (N + 1), r.length ≤ 2 := fun r hr => by
      obtain ⟨i, hi, rfl⟩ := List.mem_iff_getElem.1 hr
      obtain ⟨x, y, f1, _⟩ := hrow i (by omega)
      have e : (rtTo T (lens T (c, d)) (a, b) (N + 1))[i] = [x, y] := by rw [← f1]; simp [List.getD, hi]
      rw [e]; exact Nat.le_refl _
    have := totI_bd (rrInt64 (rtTo T (lens T (c, d)) (a, b) (N + 1))) 2 (rrI_row hr2) (N + 1) (by rw [rrInt64_len, hlen]; exact Nat.le_refl _)
    omega
/-- What is asked of the lengths from a state. -/
structure LnF (T : List (List Bool)) (a b : Int) (D : List (List Int)) : Prop where
  ok : OkD D
  start : dget D a b = 0
  bd : ∀ c d : Int, dirOk c → dirOk d → -1 ≤ dget D c d ∧ dget D c d < 576
  free : ∀ c d : Int, dirOk c → dirOk d → 0 ≤ dget D c d → tg T c d = false
  near : ∀ c d x y : Int, dirOk c → dirOk d → 0 ≤ dget D c d → (x, y) ∈ nxt T c d → dget D x y ≤ dget D c d + 1 ∧ dget D c d - 1 ≤ dget D x y
  far : 0 ≤ (farTo D 24).2 ∧ dirOk (farTo D 24).1.1 ∧ dirOk (farTo D 24).1.2 ∧ dget D (farTo D 24).1.1 (farTo D 24).1.2 = (farTo D 24).2
theorem lens_facts {T : List (List Bool)} {a b : Int} (ha : dirOk a) (hb : dirOk b) (hf : tg T a b = false) : LnF T a b (lens T (a, b)) :=
  ⟨lens_ok T ⟨ha, hb⟩, lens_start T (p := (a, b)) ⟨ha, hb⟩, fun c d hc hd => lens_bd T ⟨ha, hb⟩ hc hd, fun c d hc hd h => lens_free (p := (a, b)) (q := (c, d)) ⟨ha, hb⟩ ⟨hc, hd⟩ hf h,
    fun c d x y hc hd h0 hm => (lens_near T (p := (a, b)) (q := (c, d)) (r := (x, y)) ⟨ha, hb⟩ ⟨hc, hd⟩ h0 hm).2, far_all ha hb⟩
theorem lnL_yes {T : List (List Bool)} {a b : Int} (h : codeL T [[a, b]] = 0) : lnL T [a, b] = lens T (a, b) := by
  unfold lnL; rw [if_pos h]; rfl
theorem crc_yes {T : List (List Bool)} {a b : Int} (h : codeL T [[a, b]] = 0) : crcP T [a, b] = (((cntTo (lens T (a, b)) 24 : Nat) : Int), 0) := by
  unfold crcP; rw [if_pos h]; rfl
theorem far_yes {T : List (List Bool)} {a b : Int} (h : codeL T [[a, b]] = 0) : farL T [a, b] = pr2 (farTo (lens T (a, b)) 24).1 ∧ farM T [a, b] = (farTo (lens T (a, b)) 24).2 := by
  unfold farL farM; rw [if_pos h, if_pos h]; exact ⟨rfl, rfl⟩
theorem st_rows {T : List (List Bool)} {a b : Int} {r : List Int} (h0 : codeL T [[a, b]] = 0) (h : r ∈ stL T [a, b]) : ∃ c d : Int, r = [c, d] ∧ dirOk c ∧ dirOk d ∧ (c, d) ∈ nxt T a b := by
  unfold stL at h
  rw [if_pos h0] at h
  obtain ⟨q, hq, rfl⟩ := List.mem_map.1 h
  obtain ⟨h1, h2⟩ := nxt_ok hq
  exact ⟨q.1, q.2, rfl, h1.1, h1.2, hq⟩
theorem d_cells {w : World} {lo hi : Nat} {A : Option Addr} {D : List (List Int)} (h : RdSS w lo hi A 24 (rrInt64 D)) (ok : OkD D) (a : Nat) (ha : a < 24) :
    ∃ b0 o0 ba oa ca, A = some ⟨b0, o0, none⟩ ∧ lo ≤ b0 ∧ b0 < hi ∧ lo ≤ ba ∧ ba < hi ∧ w.cell? ⟨b0, o0 + a, none⟩ = some (.slice (some ⟨ba, oa, none⟩) 24 ca) ∧ ∀ b : Nat, b < 24 → w.cell? ⟨ba, oa + b, none⟩ = some (.int .i64 (dget D a b)) := by
  obtain ⟨b0, o0, Ai, ni, ci, hA, l1, l2, hc, hm, hn, hr⟩ := h.at_ ha
  rw [rrInt64_at] at hn hr
  rw [rInt64_len1, ok.2 a ha] at hn
  subst hn
  obtain ⟨ba, oa, hA2, m1, m2, hc2⟩ := hr.2 (by omega)
  subst hA2
  refine ⟨b0, o0, ba, oa, ci, hA, l1, l2, m1, m2, hc, fun b hb => hc2 b _ ?_⟩
  have hb' : b < (D.getD a []).length := by rw [ok.2 a ha]; exact hb
  rw [rInt64_map, List.getElem?_map, getD_lt _ _ hb']
  unfold dget
  rw [Int.toNat_natCast, Int.toNat_natCast]
  rfl
/-- Two cells of a list of two. -/
theorem st_two {w : World} {lo hi b o : Nat} {x y : Int} (h : Rd w lo hi 1 (some ⟨b, o, none⟩) 2 (rInt64 [x, y])) : w.cell? ⟨b, o, none⟩ = some (.int .i64 x) ∧ w.cell? ⟨b, o + 1, none⟩ = some (.int .i64 y) := by
  obtain ⟨b', o', e, _, _, k0, k1⟩ := st_cells h
  injection e with e
  injection e with e1 e2
  subst e1 e2
  exact ⟨k0, k1⟩
/-- Cells of rows of two. -/
theorem rr_two {w : World} {lo hi n : Nat} {A : Option Addr} {R : List (List Int)} (h : RdSS w lo hi A n (rrInt64 R)) {i : Nat} (hi' : i < n) {x y : Int} (e : R.getD i [] = [x, y]) :
    ∃ b0 o0 br or_ cr, A = some ⟨b0, o0, none⟩ ∧ lo ≤ b0 ∧ b0 < hi ∧ w.cell? ⟨b0, o0 + i, none⟩ = some (.slice (some ⟨br, or_, none⟩) 2 cr) ∧ Rd w lo hi 1 (some ⟨br, or_, none⟩) 2 (rInt64 [x, y]) := by
  obtain ⟨b0, o0, Ai, ni, ci, hA, l1, l2, hc, hm, hn, hr⟩ := h.at_ hi'
  rw [rrInt64_at, e] at hn hr
  obtain rfl : ni = 2 := by rw [hn]; rfl
  obtain ⟨br, or_, rfl, _⟩ := st_cells hr
  exact ⟨b0, o0, br, or_, ci, hA, l1, l2, hc, hr⟩
/-- Counting and the greatest length, one entry more. -/
theorem cnt_no {D : List (List Int)} {a j : Nat} (h : dget D a j < 0) : cntIn D a (j + 1) = cntIn D a j := by
  show cntIn D a j + _ = _
  rw [if_pos h]; omega
theorem cnt_yes {D : List (List Int)} {a j : Nat} (h : 0 ≤ dget D a j) : cntIn D a (j + 1) = cntIn D a j + 1 := by
  show cntIn D a j + _ = _
  rw [if_neg (by omega)]
theorem most_no {D : List (List Int)} {a j : Nat} (h : dget D a j < 0) : max 0 (farIn D a (farTo D a) (j + 1)).2 = max 0 (farIn D a (farTo D a) j).2 := by
  have e : (farIn D a (farTo D a) (j + 1)).2 = max (farIn D a (farTo D a) j).2 (dget D a j) := farStep_max D a j _
  rw [e]; omega
theorem most_yes {D : List (List Int)} {a j : Nat} (h : 0 ≤ dget D a j) : max 0 (farIn D a (farTo D a) (j + 1)).2 = max (max 0 (farIn D a (farTo D a) j).2) (dget D a j) := by
  have e : (farIn D a (farTo D a) (j + 1)).2 = max (farIn D a (farTo D a) j).2 (dget D a j) := farStep_max D a j _
  rw [e]; omega
end Go.Proofs.YtnbahmjimnhfbaaDoor
