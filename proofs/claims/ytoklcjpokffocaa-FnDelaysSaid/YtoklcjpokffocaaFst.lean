/-
  THE FIRST CONFLICT OF TWO MOTIONS: the reference's and the program's. No condition but those that each theorem names.
-/
import Derived.Test.YtoklcjpokffocaaTrk
import Derived.BigQuiet
import Derived.Lib.SmallJoins
namespace Go.Proofs.Ytoklcjpokffocaa
open Go.RowKit
set_option linter.unusedVariables false

/-- A motion in a box; a motion as a value. -/
def MoAt (w : World) (b : Nat) (st : Int) (l : List Int) : Prop := ∃ A n c lo hi, Box w b [.int .i64 st, .slice A n c] ∧ Rd w lo hi 1 A n (rInt64 l) ∧ l.length = n ∧ n ≤ 4096 ∧ hi ≤ w.heap.size ∧ b < w.heap.size
def MoV (w : World) (v : Value) (st : Int) (l : List Int) : Prop := ∃ A n c lo hi, v = .agg #[.int .i64 st, .slice A n c] ∧ Rd w lo hi 1 A n (rInt64 l) ∧ l.length = n ∧ n ≤ 4096 ∧ hi ≤ w.heap.size
theorem MoAt.below {w w' : World} {b : Nat} {st : Int} {l : List Int} (h : MoAt w b st l) (hb : Below w.heap.size w w') : MoAt w' b st l := by
  obtain ⟨A, n, c, lo, hi, hB, hr, hl, hm, hw, hq⟩ := h
  have := hb.size
  exact ⟨A, n, c, lo, hi, hB.below hb hq, hr.below hb hw, hl, hm, by omega, by omega⟩
theorem MoV.below {w w' : World} {v : Value} {st : Int} {l : List Int} (h : MoV w v st l) (hb : Below w.heap.size w w') : MoV w' v st l := by
  obtain ⟨A, n, c, lo, hi, hv, hr, hl, hm, hw⟩ := h
  have := hb.size
  exact ⟨A, n, c, lo, hi, hv, hr.below hb hw, hl, hm, by omega⟩

/-- The conflict behind a step, or if only one had made it. -/
def clV (T : List (List Bool)) (x y p q : Int) : Bool := tg T p q || tg T p y || tg T x q
def clK (T : List (List Bool)) (a : Int) (la : List Int) (b : Int) (lb : List Int) (k : Nat) : Bool := if k = 0 then tg T a b else clV T (moAt a la (k - 1)) (moAt b lb (k - 1)) (moAt a la k) (moAt b lb k)
def fstF (p : Nat → Bool) : Nat → Nat → Int
  | 0, _ => -1
  | f + 1, k => if p k = true then k else fstF p f (k + 1)
def fstV (T : List (List Bool)) (a : Int) (la : List Int) (b : Int) (lb : List Int) : Int := fstF (clK T a la b lb) (max la.length lb.length + 1) 0
theorem fstF_none {p : Nat → Bool} : ∀ (f k : Nat), (∀ j, k ≤ j → j < k + f → p j = false) → fstF p f k = -1 := by
  intro f
  induction f with
  | zero => intro k _; rfl
  | succ f ih =>
    intro k h
    unfold fstF
    rw [if_neg (by rw [h k (Nat.le_refl _) (by omega)]; decide)]
    exact ih (k + 1) (fun j h1 h2 => h j (by omega) (by omega))
theorem fstF_at {p : Nat → Bool} {m : Nat} (hm : p m = true) : ∀ (f k : Nat), k ≤ m → m < k + f → (∀ j, k ≤ j → j < m → p j = false) → fstF p f k = m := by
  intro f
  induction f with
  | zero => intro k h1 h2; omega
  | succ f ih =>
    intro k h1 h2 h
    unfold fstF
    by_cases hk : k = m
    · subst hk; rw [if_pos hm]
    · rw [if_neg (by rw [h k (Nat.le_refl _) (by omega)]; decide)]
      exact ih (k + 1) (by omega) (by omega) (fun j a b => h j (by omega) b)
theorem fstV_none {T : List (List Bool)} {a : Int} {la : List Int} {b : Int} {lb : List Int} (h : ∀ j, j ≤ max la.length lb.length → clK T a la b lb j = false) : fstV T a la b lb = -1 := fstF_none _ _ fun j _ h2 => h j (by omega)
theorem fstV_at {T : List (List Bool)} {a : Int} {la : List Int} {b : Int} {lb : List Int} {m : Nat} (hm : clK T a la b lb m = true) (hle : m ≤ max la.length lb.length) (h : ∀ j, j < m → clK T a la b lb j = false) : fstV T a la b lb = m := fstF_at hm _ _ (by omega) (by omega) fun j _ h2 => h j h2
theorem clK_succ (T : List (List Bool)) (a : Int) (la : List Int) (b : Int) (lb : List Int) (k : Nat) : clK T a la b lb (k + 1) = clV T (moAt a la k) (moAt b lb k) (moAt a la (k + 1)) (moAt b lb (k + 1)) := by
  unfold clK
  rw [if_neg (by omega), Nat.add_sub_cancel]

set_option maxRecDepth 100000 in
set_option maxHeartbeats 4000000 in
theorem clashesM_any (A : Option Addr) (n c lo hi : Nat) (T : List (List Bool)) (ok : okT T = true) (x y p q : Int) (hx : 0 ≤ x ∧ x ≤ 23) (hy : 0 ≤ y ∧ y ≤ 23) (hp : 0 ≤ p ∧ p ≤ 23) (hq : 0 ≤ q ∧ q ≤ 23) (w : World) (h : RdSS w lo hi A n (rrBool T)) :
    Calls Try.prog 46 #[.slice A n c, .int .i64 x, .int .i64 y, .int .i64 p, .int .i64 q] w fun e w' => e = .returned (.bool (clV T x y p q)) ∧ w' = w := by
  obtain ⟨kx, rfl⟩ : ∃ k : Nat, x = k := ⟨x.toNat, by omega⟩
  obtain ⟨ky, rfl⟩ : ∃ k : Nat, y = k := ⟨y.toNat, by omega⟩
  obtain ⟨kp, rfl⟩ : ∃ k : Nat, p = k := ⟨p.toNat, by omega⟩
  obtain ⟨kq, rfl⟩ : ∃ k : Nat, q = k := ⟨q.toNat, by omega⟩
  have hn : n = 24 := by have := h.length; rw [rrBool_len, okT_len ok] at this; omega
  subst hn
  have lx : kx < 24 := by omega
  have ly : ky < 24 := by omega
  have lp : kp < 24 := by omega
  have lq : kq < 24 := by omega
  obtain ⟨b0, o0, bp, op, cp, hA, _, _, _, _, hcP, hrP⟩ := tab_cells h ok kp lp
  obtain ⟨b0', o0', bx, ox, cx, hA', _, _, _, _, hcX, hrX⟩ := tab_cells h ok kx lx
  subst hA
  obtain ⟨rfl, rfl⟩ : b0 = b0' ∧ o0 = o0' := by simpa using hA'
  have hv1 := hrP kq lq
  have hv2 := hrP ky ly
  have hv3 := hrX kq lq
  unfold clV
  rw [show tg T (kp : Int) (kq : Int) = (T.getD kp []).getD kq false by simp [tg], show tg T (kp : Int) (ky : Int) = (T.getD kp []).getD ky false by simp [tg], show tg T (kx : Int) (kq : Int) = (T.getD kx []).getD kq false by simp [tg]]
  clear hA' hrP hrX h ok hx hy hp hq
  generalize (T.getD kp []).getD kq false = v1 at *
  generalize (T.getD kp []).getD ky false = v2 at *
  generalize (T.getD kx []).getD kq false = v3 at *
  cases v1 <;> cases v2
  all_goals
    go_enter Try.func46, Try.ntmps46
    go_wp2_with fail
    go_ret
    exact ⟨ret_bool (by simp), rfl⟩

theorem moAt_nat {st : Int} (l : List Int) (h0 : 0 ≤ st) (h1 : st ≤ 23) (k : Nat) : ∃ m : Nat, moAt st l k = m ∧ m < 24 := by
  have := moAt_bd l h0 h1 k
  exact ⟨(moAt st l k).toNat, by omega, by omega⟩

theorem l16At_m (b : Nat) (A : Option Addr) (n c lo hi : Nat) (st : Int) (l : List Int) (hl : l.length = n) (hm : n ≤ 4096) (hs : stepsV l = true) (h0 : 0 ≤ st) (h1 : st ≤ 23) (k : Nat) (hk : k ≤ 4096) (x : Int) (hx : x = (k : Int)) (w : World) (hB : Box w b [.int .i64 st, .slice A n c]) (h : Rd w lo hi 1 A n (rInt64 l)) :
    Calls Try.prog 27 #[.pointer (some ⟨b, 0, none⟩), .int .i64 x] w fun e w' => e = .returned (.int .i64 (moAt st l k)) ∧ w' = w := by
  subst hx
  exact l16At_any b A n c lo hi st l hl (by unfold maxLen; omega) hs h0 h1 k (by unfold maxLen; omega) w hB h
theorem clV_nat (T : List (List Bool)) (x y p q : Nat) : clV T x y p q = ((T.getD p []).getD q false || (T.getD p []).getD y false || (T.getD x []).getD q false) := by
  simp [clV, tg]

set_option maxHeartbeats 400000 in
theorem l00Max_m (a b m : Nat) (hm : max a b = m) (w : World) : Calls Try.prog 50 #[.int .i64 a, .int .i64 b] w fun e w' => e = .returned (.int .i64 (m : Int)) ∧ w' = w := by
  subst hm
  by_cases h : a > b
  · have h1 : (b : Int) < a := by omega
    rw [show max a b = a by omega]
    go_enter Try.func50, Try.ntmps50
    go_wp2_with fail
    go_ret
    exact ⟨rfl, rfl⟩
  · have h1 : ¬ (b : Int) < a := by omega
    rw [show max a b = b by omega]
    go_enter Try.func50, Try.ntmps50
    go_wp2_with fail
    go_ret
    exact ⟨rfl, rfl⟩

set_option maxRecDepth 100000 in
set_option maxHeartbeats 4000000 in
theorem l16First_any (A : Option Addr) (n c lo hi : Nat) (T : List (List Bool)) (ok : okT T = true) (ba bb : Nat) (a b : Int) (la lb : List Int) (va : moV a la = true) (vb : moV b lb = true) (w : World) (h : RdSS w lo hi A n (rrBool T)) (hw : hi ≤ w.heap.size) (hA : MoAt w ba a la) (hB : MoAt w bb b lb) :
    Calls Try.prog 24 #[.slice A n c, .pointer (some ⟨ba, 0, none⟩), .pointer (some ⟨bb, 0, none⟩)] w fun e w' => e = .returned (.int .i64 (fstV T a la b lb)) ∧ Below w.heap.size w w' := by
  obtain ⟨hsa, a0, a1, hla⟩ := moV_true va
  obtain ⟨hsb, b0, b1, hlb⟩ := moV_true vb
  have hn : n = 24 := by have := h.length; rw [rrBool_len, okT_len ok] at this; omega
  subst hn
  obtain ⟨Aa, na, ca, loa, hia, hBa, hRa, hna, hma, hha, hqa⟩ := hA
  obtain ⟨Ab, nb, cb, lob, hib, hBb, hRb, hnb, hmb, hhb, hqb⟩ := hB
  obtain ⟨ka, rfl⟩ : ∃ k : Nat, a = k := ⟨a.toNat, by omega⟩
  obtain ⟨kb, rfl⟩ : ∃ k : Nat, b = k := ⟨b.toNat, by omega⟩
  have lka : ka < 24 := by omega
  have lkb : kb < 24 := by omega
  obtain ⟨t0, o0, br, or_, cr, rfl, ht1, ht2, _, _, hcR, hrR⟩ := tab_cells h ok ka lka
  have hv := hrR kb lkb
  have E0 : clK T ka la kb lb 0 = (T.getD ka []).getD kb false := by simp [clK, tg]
  have q0 := hBa 0 _ rfl
  have q1 := hBb 0 _ rfl
  have HT := hide h
  have OK := hide ok
  have HSA := hide hsa
  have HSB := hide hsb
  have HBA := hide hBa
  have HBB := hide hBb
  have HRA := hide hRa
  have HRB := hide hRb
  have HNA := hide hna
  have HNB := hide hnb
  clear hrR h ok hsa hsb hBa hBb hRa hRb va vb hna hnb
  generalize (T.getD ka []).getD kb false = v at *
  have HE0 := hide E0
  clear E0
  cases v
  case true =>
    go_enter Try.func24, Try.ntmps24
    go_wp2_with fail
    go_quiet (fail)
    go_wp2_with fail
    go_ret
    exact ⟨ret_int (fstV_at (m := 0) HE0.out (by omega) (by intro j hj; omega)).symm, Joins.below_draws _ _ _⟩
  go_enter Try.func24, Try.ntmps24
  go_wp2_with fail
  go_quiet (fail)
  go_wp2_with fail
  obtain ⟨M, hM⟩ : ∃ M, max na nb = M := ⟨_, rfl⟩
  have hM2 : M ≤ 4096 := by omega
  go_loopw [7, 8, 9, 10, 11] (fun x y i _ _ wr => ∃ k : Nat, k ≤ M ∧ i = .int .i64 ((k : Int) + 1) ∧ x = .int .i64 (moAt ka la k) ∧ y = .int .i64 (moAt kb lb k) ∧ Hid (∀ j, j ≤ k → clK T ka la kb lb j = false) ∧ Below w.heap.size w wr) (fun _ _ i _ _ _ => M + 1 - (intOf i).toNat)
  case atStart => exact ⟨0, by omega, rfl, rfl, rfl, hide (by intro j hj; obtain rfl : j = 0 := (by omega); exact HE0.out), Joins.below_draws _ _ _⟩
  case round =>
    obtain ⟨k, hk, rfl, rfl, rfl, HP, hbr⟩ := hrel
    have hsz := hbr.size
    have HBA2 := hide (HBA.out.below hbr hqa)
    have HBB2 := hide (HBB.out.below hbr hqb)
    have HRA2 := hide (HRA.out.below hbr hha)
    have HRB2 := hide (HRB.out.below hbr hhb)
    have HT2 := hide (HT.out.below hbr hw)
    have q2 := HBA2.out 1 _ rfl
    have q3 := HBB2.out 1 _ rfl
    have hM1 := hide hM
    clear q0 q1 hv hcR hM HE0
    by_cases hlt : k < M
    · have z1 : decide ((k : Int) + 1 ≤ (M : Int)) = true := decide_eq_true (by omega)
      obtain ⟨kx, ex, lx⟩ := moAt_nat la a0 a1 k
      obtain ⟨ky, ey, ly⟩ := moAt_nat lb b0 b1 k
      obtain ⟨kp, ep, lp⟩ := moAt_nat la a0 a1 (k + 1)
      obtain ⟨kq, eq, lq⟩ := moAt_nat lb b0 b1 (k + 1)
      have EC := clK_succ T ka la kb lb k
      rw [ex, ey, ep, eq, clV_nat] at EC
      obtain ⟨t1, o1, bp, op, cp, hA1, _, _, _, _, hcP, hrP⟩ := tab_cells HT2.out OK.out kp lp
      obtain ⟨rfl, rfl⟩ : t0 = t1 ∧ o0 = o1 := by simpa using hA1
      obtain ⟨t2, o2, bx, ox, cx, hA2, _, _, _, _, hcX, hrX⟩ := tab_cells HT2.out OK.out kx lx
      obtain ⟨rfl, rfl⟩ : t0 = t2 ∧ o0 = o2 := by simpa using hA2
      have hv1 := hrP kq lq
      have hv2 := hrP ky ly
      have hv3 := hrX kq lq
      rw [ex, ey]
      have EP := hide ep
      have EQ := hide eq
      clear hA1 hA2 hrP hrX ex ey ep eq
      generalize (T.getD kp []).getD kq false = v1 at *
      generalize (T.getD kp []).getD ky false = v2 at *
      generalize (T.getD kx []).getD kq false = v3 at *
      have HEC := hide EC
      clear EC
      go_wp2_with fail
      go_quiet ((go_at_call 50; with_reducible exact Calls.quiet_of_same (l00Max_m na nb M hM1.out _)))
      go_wp2_with fail
      refine (l16At_m ba Aa na ca loa hia ka la HNA.out hma HSA.out a0 a1 (k + 1) (by omega) _ (by omega) _ (HBA2.out.below (Joins.below_draws _ _ _) (by omega)) (HRA2.out.below (Joins.below_draws _ _ _) (by omega))).mono ?_
      rintro e w' ⟨rfl, hw'⟩
      obtain rfl := hw'.symm
      rw [EP.out]
      go_wp2_with fail
      refine (l16At_m bb Ab nb cb lob hib kb lb HNB.out hmb HSB.out b0 b1 (k + 1) (by omega) _ (by omega) _ (HBB2.out.below (Joins.below_draws _ _ _) (by omega)) (HRB2.out.below (Joins.below_draws _ _ _) (by omega))).mono ?_
      rintro e w' ⟨rfl, hw'⟩
      obtain rfl := hw'.symm
      rw [EQ.out]
      have hdr : Below wr.heap.size wr (wr.drewN nq) := Joins.below_draws _ _ _
      have HBR := hide (hbr.trans (hdr.mono hsz))
      clear hdr
      have HLE : Hid (k + 1 ≤ max la.length lb.length) := hide (by rw [HNA.out, HNB.out, hM1.out]; omega)
      cases v1 <;> cases v2 <;> cases v3
      case false.false.false =>
        go_wp2_with fail
        go_roundw
        case rel =>
          refine ⟨k + 1, by omega, by go_num, by rw [EP.out], by rw [EQ.out], hide ?_, HBR.out⟩
          intro j hj
          by_cases hjk : j = k + 1
          · subst hjk; exact HEC.out
          · exact HP.out j (by omega)
        case measure => simp [intOf]; omega
      all_goals
        go_wp2_with fail
        go_ret
        exact ⟨ret_int (by rw [fstV_at (m := k + 1) HEC.out HLE.out (fun j hj => HP.out j (by omega))]; go_num), HBR.out⟩
    · obtain rfl : k = M := by omega
      have z1 : decide ((k : Int) + 1 ≤ (k : Int)) = false := decide_eq_false (by omega)
      have HLE : Hid (max la.length lb.length ≤ k) := hide (by rw [HNA.out, HNB.out, hM1.out]; omega)
      go_wp2_with fail
      go_quiet ((go_at_call 50; with_reducible exact Calls.quiet_of_same (l00Max_m na nb k hM1.out _)))
      have hdr : Below wr.heap.size wr (wr.drewN nq) := Joins.below_draws _ _ _
      have HBR := hide (hbr.trans (hdr.mono hsz))
      clear hdr
      go_wp2_with fail
      go_ret
      exact ⟨ret_int (fstV_none (fun j hj => HP.out j (by have := HLE.out; omega))).symm, HBR.out⟩
end Go.Proofs.Ytoklcjpokffocaa
