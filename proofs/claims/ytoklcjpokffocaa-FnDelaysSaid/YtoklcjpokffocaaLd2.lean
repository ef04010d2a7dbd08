/-
  Several texts in one:
  A MOTION THAT IS DELAYED, the program's. No condition but those that each theorem names.
  THE LEAST DELAY, the reference's and the program's, and DelayMotion at a delay that is allowed. No condition but those that each theorem names.
  THE LEAST DELAY, the reference's; DelayMotion at a delay that is allowed. No condition but those that each theorem names.
-/
import Derived.Test.YtoklcjpokffocaaCon
import Derived.Test.YtoklcjpokffocaaSam
namespace Go.Proofs.Ytoklcjpokffocaa
open Go.RowKit
set_option linter.unusedVariables false
set_option linter.unusedSimpArgs false

set_option maxRecDepth 100000 in
set_option maxHeartbeats 1000000 in
theorem delayed_any (A : Option Addr) (n c lo hi : Nat) (st : Int) (l : List Int) (hl : l.length = n) (hm : n ≤ 4096) (k : Nat) (hk : k ≤ 4096) (w : World) (hw : hi ≤ w.heap.size) (hR : Rd w lo hi 1 A n (rInt64 l)) :
    Calls Try.prog 21 #[.agg #[.int .i64 st, .slice A n c], .int .i64 k] w fun e w' => ∃ v, e = .returned (.agg #[.int .i64 st, v]) ∧ Own w' w.heap.size w'.heap.size 2 1 v (k + n) (rInt64 (lat k l)) ∧ Below w.heap.size w w' := by
  obtain ⟨i0, hi0, hz0, hz1, hz2⟩ := info_parts infoInt64
  have I := hide (And.intro hi0 (And.intro hz0 (And.intro hz1 hz2)))
  clear hi0 hz0 hz1 hz2
  obtain ⟨X, hX⟩ : ∃ X, ((w.alloc (.cells #[.int .i64 st, .slice A n c] 27)).alloc (.cells #[.int .i64 0, .slice none 0 0] 27)) = X := ⟨_, rfl⟩
  obtain ⟨hb0, hs0, B1, B2⟩ := two_boxes w st 0 A none n c 0 0 hX
  have F2 : Fz X (w.heap.size + 1) := by
    rw [← hX]
    exact fz_at _ _ _ _ (by simp)
  have HS : Hid (X.cell? ⟨w.heap.size, 0, none⟩ = some (.int .i64 st) ∧ X.cell? ⟨w.heap.size, 1, none⟩ = some (.slice A n c)) := hide ⟨B1 0 _ rfl, B1 1 _ rfl⟩
  have HU : Hid (X.cell? ⟨w.heap.size + 1, 0, none⟩ = some (.int .i64 0) ∧ X.cell? ⟨w.heap.size + 1, 1, none⟩ = some (.slice none 0 0) ∧ X.frozen? ⟨w.heap.size + 1, 0, none⟩ = false ∧ X.frozen? ⟨w.heap.size + 1, 1, none⟩ = false) := hide ⟨B2 0 _ rfl, B2 1 _ rfl, F2 0, F2 1⟩
  have HR := hide (hR.below hb0 hw)
  have HB := hide hb0
  have HL := hide hl
  have HX := hide hX
  clear hR hb0 hl hX B1 B2 F2
  go_enter Try.func21, Try.ntmps21
  go_upto_region 1 with fail
  rw [HX.out]
  clear HX
  obtain ⟨w1, hrun, hown, hgr⟩ := run_make_full (P := Try.prog) X.drew X.heap.size 25 2 i0 (.int .i64 0) 1 Try.underlying25 I.out.1 I.out.2.1 I.out.2.2.1 .i64 .i64 k (by rw [I.out.2.2.2]; omega) (by unfold maxLen; omega) (by show X.heap.size ≤ X.heap.size; omega)
  have hsd : X.drew.heap.size = X.heap.size := rfl
  have HRUN := hide hrun
  have hb1 : Below X.heap.size X w1 := ((Below.refl X.heap.size X).drew).grown hgr (by show X.heap.size ≤ X.heap.size; omega) (by simp)
  have hs1 : X.heap.size < w1.heap.size := by
    have := (hown.lt X.heap.size rfl).2
    omega
  rw [made_zero, hsd, hs0] at hown
  have HO := hide (Own.of_owns hown)
  have HS1 : Hid (∀ o, (w1.alloc o).cell? ⟨w.heap.size, 0, none⟩ = some (.int .i64 st) ∧ (w1.alloc o).cell? ⟨w.heap.size, 1, none⟩ = some (.slice A n c)) := hide fun o => ⟨(World.cell?_alloc_lt _ _ _ (by show w.heap.size < _; omega)).trans ((hb1.cell (p := ⟨w.heap.size, 0, none⟩) (by show w.heap.size < _; omega)).trans HS.out.1), (World.cell?_alloc_lt _ _ _ (by show w.heap.size < _; omega)).trans ((hb1.cell (p := ⟨w.heap.size, 1, none⟩) (by show w.heap.size < _; omega)).trans HS.out.2)⟩
  have HS0 : Hid (w1.cell? ⟨w.heap.size, 0, none⟩ = some (.int .i64 st) ∧ w1.cell? ⟨w.heap.size, 1, none⟩ = some (.slice A n c)) := hide ⟨(hb1.cell (p := ⟨w.heap.size, 0, none⟩) (by show w.heap.size < _; omega)).trans HS.out.1, (hb1.cell (p := ⟨w.heap.size, 1, none⟩) (by show w.heap.size < _; omega)).trans HS.out.2⟩
  obtain ⟨W2, hW2⟩ : ∃ W2, w1.alloc (.cells #[.slice (some ⟨w.heap.size + 2, 0, none⟩) k k, .slice A n c] 25) = W2 := ⟨_, rfl⟩
  have hb2 : Below w1.heap.size w1 W2 := by rw [← hW2]; exact below_al _ _
  have hs2 : W2.heap.size = w1.heap.size + 1 := by rw [← hW2]; simp
  have B3 : Box W2 w1.heap.size [.slice (some ⟨w.heap.size + 2, 0, none⟩) k k, .slice A n c] := by rw [← hW2]; exact box_new _ _ _
  have hbX : Below X.heap.size X W2 := hb1.trans (hb2.mono (by omega))
  have HBX := hide (HB.out.trans (hbX.mono (by omega)))
  obtain ⟨A0, c0, e0, _, _, r0⟩ := ((Own.of_owns hown).below hb2 (Nat.le_refl _)).rd
  injection e0 with e1 e2 e3
  subst e1 e3
  have HCON := hide (concat_two w1.heap.size (some ⟨w.heap.size + 2, 0, none⟩) A k k n c _ _ lo hi (List.replicate k 0) l (by simp) HL.out hk hm W2 (by omega) B3 r0 (HR.out.below hbX (by omega)) (by omega) (by omega))
  have HU2 : Hid (W2.cell? ⟨w.heap.size + 1, 0, none⟩ = some (.int .i64 0) ∧ W2.cell? ⟨w.heap.size + 1, 1, none⟩ = some (.slice none 0 0) ∧ W2.frozen? ⟨w.heap.size + 1, 0, none⟩ = false ∧ W2.frozen? ⟨w.heap.size + 1, 1, none⟩ = false) := hide ⟨(hbX.cell (p := ⟨w.heap.size + 1, 0, none⟩) (by show w.heap.size + 1 < _; omega)).trans HU.out.1, (hbX.cell (p := ⟨w.heap.size + 1, 1, none⟩) (by show w.heap.size + 1 < _; omega)).trans HU.out.2.1, (hbX.frozen (p := ⟨w.heap.size + 1, 0, none⟩) (by show w.heap.size + 1 < _; omega)).trans HU.out.2.2.1, (hbX.frozen (p := ⟨w.heap.size + 1, 1, none⟩) (by show w.heap.size + 1 < _; omega)).trans HU.out.2.2.2⟩
  have HS2 : Hid (W2.cell? ⟨w.heap.size, 0, none⟩ = some (.int .i64 st) ∧ W2.cell? ⟨w.heap.size, 1, none⟩ = some (.slice A n c)) := hide ⟨(hbX.cell (p := ⟨w.heap.size, 0, none⟩) (by show w.heap.size < _; omega)).trans HS.out.1, (hbX.cell (p := ⟨w.heap.size, 1, none⟩) (by show w.heap.size < _; omega)).trans HS.out.2⟩
  have HW2 := hide hW2
  clear hown hgr hrun hb1 hb2 hbX B3 r0 hW2 HU HO HB
  go_region_held3 (fun W => W.cell? ⟨w.heap.size, 0, none⟩ = some (.int .i64 st) ∧ W.cell? ⟨w.heap.size, 1, none⟩ = some (.slice A n c)) (first | exact HS.out | exact HS0.out | exact HS1.out _ | exact HS3.out | exact ⟨((World.cell?_setCell_far _ _ ⟨w.heap.size, 0, none⟩ _ (by show w.heap.size + 1 ≠ w.heap.size; omega)).trans (World.cell?_setCell_far _ _ ⟨w.heap.size, 0, none⟩ _ (by show w.heap.size + 1 ≠ w.heap.size; omega))).trans HS3.out.1, ((World.cell?_setCell_far _ _ ⟨w.heap.size, 1, none⟩ _ (by show w.heap.size + 1 ≠ w.heap.size; omega)).trans (World.cell?_setCell_far _ _ ⟨w.heap.size, 1, none⟩ _ (by show w.heap.size + 1 ≠ w.heap.size; omega))).trans HS3.out.2⟩) (first | (rw [HRUN.out]; simp only [Result.andThen, Oper.upon]) | (go_at_call 48; rw [HW2.out]; (with_reducible refine HCON.out.mono ?_); rintro e w3 ⟨v3, rfl, ho3, hb3⟩; obtain ⟨A3, c3, rfl, hn3, hm3, hr3⟩ := ho3.rd; have HS3 : Hid (w3.cell? ⟨w.heap.size, 0, none⟩ = some (.int .i64 st) ∧ w3.cell? ⟨w.heap.size, 1, none⟩ = some (.slice A n c)) := hide ⟨(hb3.cell (p := ⟨w.heap.size, 0, none⟩) (by show w.heap.size < _; omega)).trans HS2.out.1, (hb3.cell (p := ⟨w.heap.size, 1, none⟩) (by show w.heap.size < _; omega)).trans HS2.out.2⟩; have HU3 : Hid (w3.cell? ⟨w.heap.size + 1, 0, none⟩ = some (.int .i64 0) ∧ w3.cell? ⟨w.heap.size + 1, 1, none⟩ = some (.slice none 0 0) ∧ w3.frozen? ⟨w.heap.size + 1, 0, none⟩ = false ∧ w3.frozen? ⟨w.heap.size + 1, 1, none⟩ = false) := hide ⟨(hb3.cell (p := ⟨w.heap.size + 1, 0, none⟩) (by show w.heap.size + 1 < _; omega)).trans HU2.out.1, (hb3.cell (p := ⟨w.heap.size + 1, 1, none⟩) (by show w.heap.size + 1 < _; omega)).trans HU2.out.2.1, (hb3.frozen (p := ⟨w.heap.size + 1, 0, none⟩) (by show w.heap.size + 1 < _; omega)).trans HU2.out.2.2.1, (hb3.frozen (p := ⟨w.heap.size + 1, 1, none⟩) (by show w.heap.size + 1 < _; omega)).trans HU2.out.2.2.2⟩; have HO3 := hide ho3; have HB3 := hide hb3; clear ho3 hb3; have r0 := HU3.out.1; have r1 := HU3.out.2.1; have r2 := HU3.out.2.2.1; have r3 := HU3.out.2.2.2))
  have BW : Box w3 (w.heap.size + 1) [.int .i64 0, .slice none 0 0] := by
    intro i v hv
    match i, hv with
    | 0, hv => simp at hv; subst hv; exact r0
    | 1, hv => simp at hv; subst hv; exact r1
    | i + 2, hv => simp at hv
  have BE := (BW.put 0 (.int .i64 st) (by simp)).put 1 (.slice A3 (k + n) c3) (by simp)
  have HOE := ownsRow_setCell_below (ownsRow_setCell_below HO3.out.1 (a := ⟨w.heap.size + 1, 0, none⟩) (by show w.heap.size + 1 < W2.heap.size; omega) (.int .i64 st)) (a := ⟨w.heap.size + 1, 1, none⟩) (by show w.heap.size + 1 < W2.heap.size; omega) (.slice A3 (k + n) c3)
  have HBE : Below w.heap.size w ((w3.setCell ⟨w.heap.size + 1, 0, none⟩ (.int .i64 st)).setCell ⟨w.heap.size + 1, 1, none⟩ (.slice A3 (k + n) c3)) := by
    refine Below.setCell ?_ (by show w.heap.size ≤ w.heap.size + 1; omega) _
    refine Below.setCell ?_ (by show w.heap.size ≤ w.heap.size + 1; omega) _
    exact HBX.out.trans (HB3.out.mono (by omega))
  generalize ((w3.setCell ⟨w.heap.size + 1, 0, none⟩ (.int .i64 st)).setCell ⟨w.heap.size + 1, 1, none⟩ (.slice A3 (k + n) c3)) = WE at *
  have q0 := BE 0 _ rfl
  have q1 := BE 1 _ rfl
  have HOF := hide (own_lo HOE (show w.heap.size ≤ W2.heap.size by omega))
  have HBF := hide HBE
  clear HOE HBE BE BW r0 r1 r2 r3
  go_wp2_with fail
  refine bodyPost_ret (v := .agg #[.int .i64 st, .slice A3 (k + n) c3]) (by simp [results, Try.results21, go_sem, q0, q1]) rfl ?_
  exact ⟨_, rfl, Own.of_owns HOF.out, HBF.out⟩

open Go.RowKit
set_option linter.unusedVariables false
set_option linter.unusedSimpArgs false

def ldOk (T : List (List Bool)) (a : Int) (la : List Int) (b : Int) (lb : List Int) (k : Nat) : Bool := decide (fstV T a la b (lat k lb) < 0)
def ldX (T : List (List Bool)) (a : Int) (la : List Int) (b : Int) (lb : List Int) : Int := fstF (ldOk T a la b lb) (min la.length (200 - lb.length) + 1) 0
def ldP (T : List (List Bool)) (a : Int) (la : List Int) (b : Int) (lb : List Int) : Int × Int := if coM T a la b lb = 0 then (if ldX T a la b lb < 0 then (0, 3) else (ldX T a la b lb, 0)) else (0, coM T a la b lb)
theorem ldP_no {T : List (List Bool)} {a : Int} {la : List Int} {b : Int} {lb : List Int} (h : ¬ coM T a la b lb = 0) : ldP T a la b lb = (0, coM T a la b lb) := by simp [ldP, h]
theorem ldP_none {T : List (List Bool)} {a : Int} {la : List Int} {b : Int} {lb : List Int} (h : coM T a la b lb = 0) (hn : ∀ j, j < min la.length (200 - lb.length) + 1 → ldOk T a la b lb j = false) : ldP T a la b lb = (0, 3) := by
  have e : ldX T a la b lb = -1 := fstF_none _ _ fun j _ h2 => hn j (by omega)
  simp [ldP, h, e]
theorem ldP_at {T : List (List Bool)} {a : Int} {la : List Int} {b : Int} {lb : List Int} (h : coM T a la b lb = 0) {m : Nat} (hm : ldOk T a la b lb m = true) (hle : m < min la.length (200 - lb.length) + 1) (hn : ∀ j, j < m → ldOk T a la b lb j = false) : ldP T a la b lb = ((m : Int), 0) := by
  have e : ldX T a la b lb = m := fstF_at hm _ _ (by omega) (by omega) fun j _ h2 => hn j h2
  have : ¬ (m : Int) < 0 := by omega
  simp [ldP, h, e, this]
theorem stepsV_lat {l : List Int} (h : stepsV l = true) (k : Nat) : stepsV (lat k l) = true := by
  unfold stepsV lat at *
  rw [List.all_append, h, Bool.and_true, List.all_eq_true]
  intro x hx
  obtain ⟨_, rfl⟩ := List.mem_replicate.1 hx
  rfl
theorem moV_lat {b : Int} {l : List Int} (h : moV b l = true) {k : Nat} (hk : k + l.length ≤ 200) : moV b (lat k l) = true := by
  have hs := stepsV_lat (moV_true h).1 k
  unfold moV at *
  rw [Bool.and_eq_true, Bool.and_eq_true] at *
  exact ⟨hs, h.2.1, decide_eq_true (by rw [lat_len]; exact hk)⟩

/-- Where the cells of two boxes stand: a word for a held region. -/
def Two (a b : Nat) (s t : Value) (u v : Value) (W : World) : Prop := W.cell? ⟨a, 0, none⟩ = some s ∧ W.cell? ⟨a, 1, none⟩ = some t ∧ W.cell? ⟨b, 0, none⟩ = some u ∧ W.cell? ⟨b, 1, none⟩ = some v
theorem Two.below {a b : Nat} {s t u v : Value} {W W' : World} (h : Two a b s t u v W) {B : Nat} (hb : Below B W W') (ha : a < B) (hb' : b < B) : Two a b s t u v W' :=
  ⟨(hb.cell (p := ⟨a, 0, none⟩) ha).trans h.1, (hb.cell (p := ⟨a, 1, none⟩) ha).trans h.2.1, (hb.cell (p := ⟨b, 0, none⟩) hb').trans h.2.2.1, (hb.cell (p := ⟨b, 1, none⟩) hb').trans h.2.2.2⟩

set_option maxRecDepth 100000 in
set_option maxHeartbeats 1000000 in
theorem implLeastDelay_any (A : Option Addr) (n c lo hi : Nat) (T : List (List Bool)) (hm : n ≤ maxLen) (Aa Ab : Option Addr) (na ca loa hia nb cb lob hib : Nat) (a b : Int) (la lb : List Int) (w : World) (h : RdSS w lo hi A n (rrBool T)) (hw : hi ≤ w.heap.size)
    (hRa : Rd w loa hia 1 Aa na (rInt64 la)) (hna : la.length = na) (hma : na ≤ 4096) (hha : hia ≤ w.heap.size) (hRb : Rd w lob hib 1 Ab nb (rInt64 lb)) (hnb : lb.length = nb) (hmb : nb ≤ 4096) (hhb : hib ≤ w.heap.size) :
    Calls Try.prog 6 #[.slice A n c, .agg #[.int .i64 a, .slice Aa na ca], .agg #[.int .i64 b, .slice Ab nb cb]] w fun e w' => e = .returned (.tuple #[.int .i64 (ldP T a la b lb).1, .int .i64 (ldP T a la b lb).2]) ∧ Below w.heap.size w w' := by
  have HT := hide h
  have HRA := hide hRa
  have HRB := hide hRb
  have HNA := hide hna
  have HNB := hide hnb
  clear h hRa hRb hna hnb
  obtain ⟨co, hco⟩ : ∃ co, coM T a la b lb = co := ⟨_, rfl⟩
  have HCO := hide hco
  clear hco
  by_cases h0 : co = 0
  all_goals
    have H0 := hide h0
    clear h0
    go_enter Try.func6, Try.ntmps6
    go_upto_region 1 with fail
    obtain ⟨X, hX⟩ : ∃ X, ((w.alloc (.cells #[.int .i64 a, .slice Aa na ca] 27)).alloc (.cells #[.int .i64 b, .slice Ab nb cb] 27)) = X := ⟨_, rfl⟩
    obtain ⟨hb0, hs0, B1, B2⟩ := two_boxes w a b Aa Ab na ca nb cb hX
    rw [hX]
    have HB0 := hide hb0
    have c0 := B1 0 _ rfl
    have c1 := B1 1 _ rfl
    have d0 := B2 0 _ rfl
    have d1 := B2 1 _ rfl
    have HC0 : Hid (Two w.heap.size (w.heap.size + 1) (.int .i64 a) (.slice Aa na ca) (.int .i64 b) (.slice Ab nb cb) X) := hide ⟨c0, c1, d0, d1⟩
    clear hb0 B1 B2 hX
    go_wp2_with (fail)
    refine (motionsCode_any A n c lo hi T hm Aa Ab na ca loa hia nb cb lob hib a b la lb _ (HT.out.below HB0.out hw) (by omega) (HRA.out.below HB0.out hha) HNA.out hma (by omega) (HRB.out.below HB0.out hhb) HNB.out hmb (by omega)).mono ?_
    rintro e w1 ⟨rfl, hb1⟩
    rw [HCO.out]
    have hs1 := hb1.size
    have HB1 := hide (HB0.out.trans (hb1.mono (by omega)))
    have HC1 := hide (HC0.out.below hb1 (by omega) (by omega))
    clear c0 c1 d0 d1 hb1 HB0 HC0
  · obtain ⟨ok, va, vb⟩ := coM_zero (HCO.out.trans H0.out)
    have hla : la.length ≤ 200 := (moV_true va).2.2.2
    have hlb : lb.length ≤ 200 := (moV_true vb).2.2.2
    have hna2 : na ≤ 200 := by have := HNA.out; omega
    have hnb2 : nb ≤ 200 := by have := HNB.out; omega
    have OK := hide ok
    have VA := hide va
    have VB := hide vb
    clear ok va vb hla hlb
    have h0 := H0.out
    subst h0
    go_wp2_with (fail)
    obtain ⟨M, hM⟩ : ∃ M, min na (200 - nb) + 1 = M := ⟨_, rfl⟩
    have HM : Hid (min la.length (200 - lb.length) + 1 = M) := hide (by rw [HNA.out, HNB.out]; exact hM)
    have hM2 : ∀ k, k < M → k ≤ na ∧ k + nb ≤ 200 := by intro k hk; omega
    have hM3 : M ≤ na → ¬ M + nb ≤ 200 := by omega
    have hM4 : M ≤ 300 := by omega
    have HM2 := hide hM2
    have HM3 := hide hM3
    clear hM hM2 hM3
    go_loopw [9] (fun i wr => ∃ k : Nat, k ≤ M ∧ i = .int .i64 (k : Int) ∧ Hid (Below w1.heap.size w1 wr) ∧ Hid (∀ j, j < k → ldOk T a la b lb j = false)) (fun i _ => M - (intOf i).toNat)
    case atStart => exact ⟨0, by omega, rfl, hide (Below.refl _ _), hide (by intro j hj; omega)⟩
    case round =>
      obtain ⟨k, hk, rfl, HBR, HP⟩ := hrel
      have hsz := HBR.out.size
      have HC := hide (HC1.out.below HBR.out (by omega) (by omega))
      obtain ⟨c0, c1, d0, d1⟩ := HC.out
      by_cases hlt : k < M
      · obtain ⟨hk1, hk2⟩ := HM2.out k hlt
        have z1 : (k : Int) ≤ (na : Int) := by omega
        have z2 : (k : Int) + (nb : Int) ≤ 200 := by omega
        go_wp2_with (fail)
        have hdr : Below wr.heap.size wr wr.drew := Joins.below_draws _ _ 1
        have hsd : wr.drew.heap.size = wr.heap.size := rfl
        have HBW := hide ((HB1.out.trans (HBR.out.mono (by omega))).trans (hdr.mono (by omega)))
        have HE : Hid (∀ v, decide (fstV T a la b (lat k lb) < 0) = v → ldOk T a la b lb k = v) := hide (fun v hv => hv)
        have HMV := hide (moV_lat VB.out (k := k) (by rw [HNB.out]; exact hk2))
        have HLL : Hid ((lat k lb).length = k + nb) := hide (by rw [lat_len, HNB.out])
        have HDL := hide (delayed_any Ab nb cb lob hib b lb HNB.out hmb k (by omega) wr.drew (by show hib ≤ wr.heap.size; omega) (HRB.out.below HBW.out hhb))
        have HCD := hide (show Two w.heap.size (w.heap.size + 1) (.int .i64 a) (.slice Aa na ca) (.int .i64 b) (.slice Ab nb cb) wr.drew from HC.out)
        clear hdr c0 c1 d0 d1
        go_region_held3 (fun W => W.cell? ⟨w.heap.size, 0, none⟩ = some (.int .i64 a) ∧ W.cell? ⟨w.heap.size, 1, none⟩ = some (.slice Aa na ca) ∧ W.cell? ⟨w.heap.size + 1, 0, none⟩ = some (.int .i64 b) ∧ W.cell? ⟨w.heap.size + 1, 1, none⟩ = some (.slice Ab nb cb)) (first | exact HC3.out | exact HC2.out | exact HC.out) (first | (go_at_call 21; (with_reducible refine HDL.out.mono ?_); rintro e w2 ⟨v2, rfl, ho2, hb2⟩; obtain ⟨A2, c2, rfl, hn2, hm2, hr2⟩ := ho2.rd; have hs2 : wr.heap.size ≤ w2.heap.size := hb2.size; have HC2 := hide (HCD.out.below hb2 (by show w.heap.size < wr.heap.size; omega) (by show w.heap.size + 1 < wr.heap.size; omega)); have HB2 := hide (HBW.out.trans (hb2.mono (by show w.heap.size ≤ wr.heap.size; omega))); have HR2 := hide hr2; have HK2 : Hid (Below wr.heap.size wr.drew w2) := hide hb2; clear ho2 hb2 hr2) | (go_at_call 20; (with_reducible refine (firstConflict_any A n c lo hi T OK.out Aa A2 na ca loa hia (k + nb) c2 _ _ a b la (lat k lb) VA.out HMV.out _ (HT.out.below HB2.out hw) (by omega) (HRA.out.below HB2.out hha) HNA.out (by omega) HR2.out HLL.out (by omega)).mono ?_); rintro e w3 ⟨rfl, hb3⟩; have hs3 := hb3.size; have HC3 := hide (HC2.out.below hb3 (by omega) (by omega)); have HB3 := hide (HB2.out.trans (hb3.mono (by omega))); have HKW : Hid (Below wr.heap.size wr.drew w3) := hide (HK2.out.trans (hb3.mono hs2)); clear hb3))
        have hv : ldOk T a la b lb k = decide (fstV T a la b (lat k lb) < 0) := rfl
        generalize decide (fstV T a la b (lat k lb) < 0) = vv at hv ⊢
        have HV := hide hv
        clear hv
        cases vv
        · go_wp2_with (fail)
          go_roundw
          case rel =>
            refine ⟨k + 1, by omega, by go_num, hide (HBR.out.trans ?_), hide ?_⟩
            · exact ((Joins.below_draws _ _ 1 : Below wr.heap.size wr wr.drew).mono hsz).trans (HKW.out.mono hsz)
            · intro j hj
              by_cases hjk : j = k
              · subst hjk; exact HV.out
              · exact HP.out j (by omega)
          case measure => simp [intOf]; omega
        · go_wp2_with (fail)
          go_ret2
          exact ⟨by rw [ldP_at HCO.out HV.out (by rw [HM.out]; exact hlt) HP.out]; rfl, HB3.out⟩
      · obtain rfl : k = M := by omega
        have HF := hide (ldP_none HCO.out (by rw [HM.out]; exact HP.out))
        by_cases hkn : k ≤ na
        · have z1 : (k : Int) ≤ (na : Int) := by omega
          have z2 : ¬ (k : Int) + (nb : Int) ≤ 200 := by have := HM3.out hkn; omega
          go_wp2_with (fail)
          go_ret2
          exact ⟨by rw [HF.out]; rfl, HB1.out.trans (HBR.out.mono (by omega))⟩
        · have z1 : ¬ (k : Int) ≤ (na : Int) := by omega
          go_wp2_with (fail)
          go_ret2
          exact ⟨by rw [HF.out]; rfl, HB1.out.trans (HBR.out.mono (by omega))⟩
  · have h0 : ¬ co = 0 := H0.out
    go_wp2_with (fail)
    go_ret2
    exact ⟨by rw [ldP_no (by rw [HCO.out]; exact H0.out), HCO.out]; rfl, HB1.out⟩

open Go.RowKit
set_option linter.unusedVariables false
set_option linter.unusedSimpArgs false

theorem l16Later_m (b : Nat) (st : Int) (l : List Int) (k : Nat) (hk : k ≤ 4096) (w : World) (h : MoAt w b st l) :
    Calls Try.prog 23 #[.pointer (some ⟨b, 0, none⟩), .int .i64 k] w fun e w' => ∃ v, e = .returned (.agg #[.int .i64 st, v]) ∧ Own w' w.heap.size w'.heap.size 2 1 v (k + l.length) (rInt64 (lat k l)) ∧ Below w.heap.size w w' := by
  obtain ⟨A, n, c, lo, hi, hB, hr, hl, hm, hw, hq⟩ := h
  rcases Nat.eq_zero_or_pos n with rfl | h0
  · obtain rfl := List.eq_nil_of_length_eq_zero hl
    exact l16Later_zero b A c st k hk w hB hq
  · obtain ⟨ba, off, rfl, h1, h2, hc⟩ := hr.2 h0
    rw [hl]
    exact l16Later_pos b ba off n c lo hi st l hl h0 hm k hk w hB (by omega) hc hq

set_option maxRecDepth 100000 in
set_option maxHeartbeats 1000000 in
theorem specLeastDelay_any (A : Option Addr) (n c lo hi : Nat) (T : List (List Bool)) (hm : n ≤ maxLen) (Aa Ab : Option Addr) (na ca loa hia nb cb lob hib : Nat) (a b : Int) (la lb : List Int) (w : World) (h : RdSS w lo hi A n (rrBool T)) (hw : hi ≤ w.heap.size)
    (hRa : Rd w loa hia 1 Aa na (rInt64 la)) (hna : la.length = na) (hma : na ≤ 4096) (hha : hia ≤ w.heap.size) (hRb : Rd w lob hib 1 Ab nb (rInt64 lb)) (hnb : lb.length = nb) (hmb : nb ≤ 4096) (hhb : hib ≤ w.heap.size) :
    Calls Try.prog 7 #[.slice A n c, .agg #[.int .i64 a, .slice Aa na ca], .agg #[.int .i64 b, .slice Ab nb cb]] w fun e w' => e = .returned (.tuple #[.int .i64 (ldP T a la b lb).1, .int .i64 (ldP T a la b lb).2]) ∧ Below w.heap.size w w' := by
  have HT := hide h
  have HRA := hide hRa
  have HRB := hide hRb
  have HNA := hide hna
  have HNB := hide hnb
  clear h hRa hRb hna hnb
  obtain ⟨co, hco⟩ : ∃ co, coM T a la b lb = co := ⟨_, rfl⟩
  have HCO := hide hco
  clear hco
  by_cases h0 : co = 0
  all_goals
    have H0 := hide h0
    clear h0
    go_enter Try.func7, Try.ntmps7
    go_wp2_with (fail)
    obtain ⟨X, hX⟩ : ∃ X, ((w.alloc (.cells #[.int .i64 a, .slice Aa na ca] 27)).alloc (.cells #[.int .i64 b, .slice Ab nb cb] 27)) = X := ⟨_, rfl⟩
    obtain ⟨hb0, hs0, B1, B2⟩ := two_boxes w a b Aa Ab na ca nb cb hX
    rw [hX]
    have HB1 := hide hb0
    have HMA : Hid (MoAt X w.heap.size a la) := hide ⟨Aa, na, ca, loa, hia, B1, HRA.out.below hb0 hha, HNA.out, hma, by omega, by omega⟩
    have HMB : Hid (MoAt X (w.heap.size + 1) b lb) := hide ⟨Ab, nb, cb, lob, hib, B2, HRB.out.below hb0 hhb, HNB.out, hmb, by omega, by omega⟩
    have HC1 : Hid (Two w.heap.size (w.heap.size + 1) (.int .i64 a) (.slice Aa na ca) (.int .i64 b) (.slice Ab nb cb) X) := hide ⟨B1 0 _ rfl, B1 1 _ rfl, B2 0 _ rfl, B2 1 _ rfl⟩
    clear hb0 B1 B2 hX
    refine (l16Code_any A n c lo hi T hm _ _ a b la lb _ (HT.out.below HB1.out hw) HMA.out HMB.out).mono ?_
    rintro e w' ⟨rfl, hw'⟩
    obtain rfl := hw'.symm
    rw [HCO.out]
  · obtain ⟨ok, va, vb⟩ := coM_zero (HCO.out.trans H0.out)
    have hla : la.length ≤ 200 := (moV_true va).2.2.2
    have hlb : lb.length ≤ 200 := (moV_true vb).2.2.2
    have hna2 : na ≤ 200 := by have := HNA.out; omega
    have hnb2 : nb ≤ 200 := by have := HNB.out; omega
    have OK := hide ok
    have VA := hide va
    have VB := hide vb
    clear ok va vb hla hlb
    have h0 := H0.out
    subst h0
    go_wp2_with (fail)
    obtain ⟨M, hM⟩ : ∃ M, min na (200 - nb) + 1 = M := ⟨_, rfl⟩
    have HM : Hid (min la.length (200 - lb.length) + 1 = M) := hide (by rw [HNA.out, HNB.out]; exact hM)
    have hM2 : ∀ k, k < M → k ≤ na ∧ k + nb ≤ 200 := by intro k hk; omega
    have hM3 : M ≤ na → ¬ M + nb ≤ 200 := by omega
    have hM4 : M ≤ 300 := by omega
    have HM2 := hide hM2
    have HM3 := hide hM3
    clear hM hM2 hM3
    go_loopw [9, 10] (fun i _ wr => ∃ k : Nat, k ≤ M ∧ i = .int .i64 (k : Int) ∧ Hid (Below X.heap.size X wr) ∧ Hid (∀ j, j < k → ldOk T a la b lb j = false)) (fun i _ _ => M - (intOf i).toNat)
    case atStart => exact ⟨0, by omega, rfl, hide (Below.refl _ _), hide (by intro j hj; omega)⟩
    case round =>
      obtain ⟨k, hk, rfl, HBR, HP⟩ := hrel
      have hsz := HBR.out.size
      have HC := hide (HC1.out.below HBR.out (by omega) (by omega))
      obtain ⟨c0, c1, d0, d1⟩ := HC.out
      by_cases hlt : k < M
      · obtain ⟨hk1, hk2⟩ := HM2.out k hlt
        have z1 : (k : Int) ≤ (na : Int) := by omega
        have z2 : (k : Int) + (nb : Int) ≤ 200 := by omega
        have HBW := hide (HB1.out.trans (HBR.out.mono (by omega)))
        have HMV := hide (moV_lat VB.out (k := k) (by rw [HNB.out]; exact hk2))
        have HLL : Hid ((lat k lb).length = k + nb) := hide (by rw [lat_len, HNB.out])
        go_wp2_with (fail)
        refine (l16Later_m _ b lb k (by omega) _ (HMB.out.below HBR.out)).mono ?_
        rintro e w2 ⟨v2, rfl, ho2, hb2⟩
        have hs2 := hb2.size
        obtain ⟨A2, c2, rfl, hn2, hm2, hr2⟩ := ho2.rd
        have HB2 := hide (HBW.out.trans (hb2.mono (by omega)))
        have HR2 := hide hr2
        have HK2 := hide hb2
        rw [HNB.out] at HR2 ⊢
        clear ho2 hb2 hr2 c0 c1 d0 d1
        go_wp2_with (fail)
        obtain ⟨W3, hW3⟩ : ∃ W3, w2.alloc (.cells #[.int .i64 b, .slice A2 (k + nb) c2] 27) = W3 := ⟨_, rfl⟩
        have hb3 : Below w2.heap.size w2 W3 := by rw [← hW3]; exact below_al _ _
        have hs3 : W3.heap.size = w2.heap.size + 1 := by rw [← hW3]; simp
        have B3 : Box W3 w2.heap.size [.int .i64 b, .slice A2 (k + nb) c2] := by rw [← hW3]; exact box_new _ _ _
        have HB3 := hide (HB2.out.trans (hb3.mono (by omega)))
        have HK3 := hide (HK2.out.trans (hb3.mono hs2))
        have HM3' : Hid (MoAt W3 w2.heap.size b (lat k lb)) := hide ⟨A2, k + nb, c2, _, _, B3, HR2.out.below hb3 (Nat.le_refl _), HLL.out, by omega, by omega, by omega⟩
        have HMA3 := hide ((HMA.out.below HBR.out).below HK3.out)
        rw [hW3]
        clear hb3 B3 hW3
        refine (l16First_any A n c lo hi T OK.out _ _ a b la (lat k lb) VA.out HMV.out _ (HT.out.below HB3.out hw) (by omega) HMA3.out HM3'.out).mono ?_
        rintro e w4 ⟨rfl, hb4⟩
        have hs4 := hb4.size
        have HB4 := hide (HB3.out.trans (hb4.mono (by omega)))
        have HK4 := hide (HK3.out.trans (hb4.mono (by omega)))
        clear hb4
        by_cases hneg : fstV T a la b (lat k lb) < 0
        · have HV : Hid (ldOk T a la b lb k = true) := hide (decide_eq_true hneg)
          go_wp2_with (fail)
          go_ret2
          exact ⟨by rw [ldP_at HCO.out HV.out (by rw [HM.out]; exact hlt) HP.out]; rfl, HB4.out⟩
        · have HV : Hid (ldOk T a la b lb k = false) := hide (decide_eq_false hneg)
          go_wp2_with (fail)
          go_roundw
          case rel =>
            refine ⟨k + 1, by omega, by go_num, hide (HBR.out.trans (HK4.out.mono hsz)), hide ?_⟩
            · intro j hj
              by_cases hjk : j = k
              · subst hjk; exact HV.out
              · exact HP.out j (by omega)
          case measure => simp [intOf]; omega
      · obtain rfl : k = M := by omega
        have HF := hide (ldP_none HCO.out (by rw [HM.out]; exact HP.out))
        by_cases hkn : k ≤ na
        · have z1 : (k : Int) ≤ (na : Int) := by omega
          have z2 : ¬ (k : Int) + (nb : Int) ≤ 200 := by have := HM3.out hkn; omega
          go_wp2_with (fail)
          go_ret2
          exact ⟨by rw [HF.out]; rfl, HB1.out.trans (HBR.out.mono (by omega))⟩
        · have z1 : ¬ (k : Int) ≤ (na : Int) := by omega
          go_wp2_with (fail)
          go_ret2
          exact ⟨by rw [HF.out]; rfl, HB1.out.trans (HBR.out.mono (by omega))⟩
  · have h0 : ¬ co = 0 := H0.out
    go_wp2_with (fail)
    go_ret2
    exact ⟨by rw [ldP_no (by rw [HCO.out]; exact H0.out), HCO.out]; rfl, HB1.out⟩

set_option maxRecDepth 100000 in
set_option maxHeartbeats 1000000 in
theorem delayMotion_any (A : Option Addr) (n c lo hi : Nat) (st : Int) (l : List Int) (hl : l.length = n) (hv : moV st l = true) (k : Nat) (hk : k + n ≤ 200) (w : World) (hw : hi ≤ w.heap.size) (hR : Rd w lo hi 1 A n (rInt64 l)) :
    Calls Try.prog 17 #[.agg #[.int .i64 st, .slice A n c], .int .i64 k] w fun e w' => ∃ v, e = .returned (.tuple #[.agg #[.int .i64 st, v], .int .i64 0]) ∧ Own w' w.heap.size w'.heap.size 2 1 v (k + n) (rInt64 (lat k l)) ∧ Below w.heap.size w w' := by
  have HR := hide hR
  have HL := hide hl
  have HV := hide hv
  clear hR hl hv
  go_enter Try.func17, Try.ntmps17
  go_upto_region 1 with fail
  obtain ⟨X, hX⟩ : ∃ X, ((w.alloc (.cells #[.int .i64 st, .slice A n c] 27)).alloc (.cells #[.int .i64 0, .slice none 0 0] 27)) = X := ⟨_, rfl⟩
  obtain ⟨hb0, hs0, B1, B2⟩ := two_boxes w st 0 A none n c 0 0 hX
  have F2 : Fz X (w.heap.size + 1) := by
    rw [← hX]
    exact fz_at _ _ _ _ (by simp)
  rw [hX]
  have HB0 := hide hb0
  have HC0 : Hid (Two w.heap.size (w.heap.size + 1) (.int .i64 st) (.slice A n c) (.int .i64 0) (.slice none 0 0) X) := hide ⟨B1 0 _ rfl, B1 1 _ rfl, B2 0 _ rfl, B2 1 _ rfl⟩
  have c0 := B1 0 _ rfl
  have c1 := B1 1 _ rfl
  have HF0 := hide F2
  clear hb0 B1 B2 hX F2
  go_wp2_with (fail)
  refine (validM_m w HV.out HL.out (by omega) hw HR.out HB0.out).mono ?_
  rintro e w1 ⟨rfl, hb1, hc1⟩
  have hs1 := hb1.size
  have HC1 := hide (HC0.out.below hb1 (by omega) (by omega))
  have HF1 := hide (HF0.out.below hb1 (by omega))
  have HB1 := hide hc1
  clear hb1 hc1 c0 c1
  obtain ⟨c0, c1, d0, d1⟩ := HC1.out
  have z2 : ¬ (k : Int) + (n : Int) > 200 := by omega
  have z3 : inR (k : Int) 0 200 = true := by simp [inR]; omega
  go_wp2_with (go_at_call 29; refine (within_any _ _ _ _).mono ?_; rintro e w' ⟨rfl, hw'⟩; obtain rfl := hw'.symm; rw [z3])
  refine (delayed_any A n c lo hi st l HL.out (by omega) k (by omega) _ (by omega) (HR.out.below HB1.out hw)).mono ?_
  rintro e w2 ⟨v2, rfl, ho2, hb2⟩
  obtain ⟨A2, c2, rfl, hn2, hm2, hr2⟩ := ho2.rd
  have hs2 := hb2.size
  have HC2 := hide (HC1.out.below hb2 (by omega) (by omega))
  have HF2 := hide (HF1.out.below hb2 (by omega))
  have HB2 := hide (HB1.out.trans (hb2.mono (by omega)))
  have HO2 := hide ho2
  clear hb2 ho2 hr2 c0 c1 d0 d1
  obtain ⟨_, _, r0, r1⟩ := HC2.out
  have r2 := HF2.out 0
  have r3 := HF2.out 1
  go_wp2_with (fail)
  have BW : Box w2 (w.heap.size + 1) [.int .i64 0, .slice none 0 0] := by
    intro i v hv
    match i, hv with
    | 0, hv => simp at hv; subst hv; exact r0
    | 1, hv => simp at hv; subst hv; exact r1
    | i + 2, hv => simp at hv
  have BE := (BW.put 0 (.int .i64 st) (by simp)).put 1 (.slice A2 (k + n) c2) (by simp)
  have HOE := ownsRow_setCell_below (ownsRow_setCell_below HO2.out.1 (a := ⟨w.heap.size + 1, 0, none⟩) (by show w.heap.size + 1 < w1.heap.size; omega) (.int .i64 st)) (a := ⟨w.heap.size + 1, 1, none⟩) (by show w.heap.size + 1 < w1.heap.size; omega) (.slice A2 (k + n) c2)
  have HBE : Below w.heap.size w ((w2.setCell ⟨w.heap.size + 1, 0, none⟩ (.int .i64 st)).setCell ⟨w.heap.size + 1, 1, none⟩ (.slice A2 (k + n) c2)) := by
    refine Below.setCell ?_ (by show w.heap.size ≤ w.heap.size + 1; omega) _
    refine Below.setCell ?_ (by show w.heap.size ≤ w.heap.size + 1; omega) _
    exact HB2.out
  generalize ((w2.setCell ⟨w.heap.size + 1, 0, none⟩ (.int .i64 st)).setCell ⟨w.heap.size + 1, 1, none⟩ (.slice A2 (k + n) c2)) = WE at *
  have q0 := BE 0 _ rfl
  have q1 := BE 1 _ rfl
  refine bodyPost_ret (v := .tuple #[.agg #[.int .i64 st, .slice A2 (k + n) c2], .int .i64 0]) (by simp [results, Try.results17, go_sem, q0, q1]) rfl ?_
  exact ⟨_, rfl, Own.of_owns (own_lo HOE (show w.heap.size ≤ w1.heap.size by omega)), HBE⟩

end Go.Proofs.Ytoklcjpokffocaa
