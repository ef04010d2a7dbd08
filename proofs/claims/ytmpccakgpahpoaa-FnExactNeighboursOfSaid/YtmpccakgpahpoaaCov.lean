/-
  CoverOf: the reference's and the program's. No condition but those that each theorem names.
-/
import Derived.Test.YtmpccakgpahpoaaHv
import Derived.Test.YtmpccakgpahpoaaFamInt64
namespace Go.Proofs.Ytmpccakgpahpoaa
open Go.RowKit
set_option linter.unusedVariables false

/-- The code of a load. -/
def lcd (v : Int) : Int := if v < 0 then 3 else 0
/-- The numbers below n that are as asked. -/
def flt (p : Nat → Bool) : Nat → List Int
  | 0 => []
  | k + 1 => if p k = true then flt p k ++ [(k : Int)] else flt p k
theorem flt_yes {p : Nat → Bool} {k : Nat} (h : p k = true) : flt p (k + 1) = flt p k ++ [(k : Int)] := by rw [flt, if_pos h]
theorem flt_no {p : Nat → Bool} {k : Nat} (h : p k = false) : flt p (k + 1) = flt p k := by rw [flt, h]; rfl
theorem flt_len (p : Nat → Bool) : ∀ k, (flt p k).length ≤ k
  | 0 => Nat.le_refl _
  | k + 1 => by
    have := flt_len p k
    unfold flt
    split
    · simp; omega
    · omega
theorem retc {v : Value} {a b : Int} (h : b = a) : Ending.returned (.tuple #[v, .int .i64 a]) = .returned (.tuple #[v, .int .i64 b]) := by rw [h]
theorem ret_lc {v a b : Int} (h : lcd v = b) : ∃ a' : Int, Ending.returned (.tuple #[.int .i64 a, .int .i64 b]) = .returned (.tuple #[.int .i64 a', .int .i64 (lcd v)]) := ⟨a, by rw [h]⟩
def cvP (l : List Crn) (x y : Int) (k : Nat) : Bool := decide (0 ≤ ldX (l.getD k crZ) x y)
theorem cvP_at {l : List Crn} {x y : Int} {k : Nat} (hk : k < l.length) {b : Bool} (h : decide (0 ≤ ldX l[k] x y) = b) : cvP l x y k = b := by unfold cvP; rw [getC hk]; exact h
def cvL (l : List Crn) (x y : Int) : List Int := if siteB l = true ∧ plB x y = true then flt (cvP l x y) l.length else []
def cvC (l : List Crn) (x y : Int) : Int := if siteB l = true ∧ plB x y = true then 0 else 1
theorem cvL_len (l : List Crn) (x y : Int) : (cvL l x y).length ≤ l.length := by
  unfold cvL; split
  · exact flt_len _ _
  · simp
theorem rInt64_sn (l : List Int) (k : Int) : rInt64 (l ++ [k]) = rInt64 l ++ [.int .i64 k] := by simp [rInt64, rows, cInt64]
theorem cell_one_at (w : World) (v : Value) (T : TypeId) (b : Nat) (hb : b = w.heap.size) : ∀ (j : Nat) (u : Value), [v][j]? = some u → (w.alloc (.cells #[v] T)).cell? ((⟨b, 0, none⟩ : Addr).add j) = some u := by
  subst hb
  intro j u hu
  rw [Go.WideShapes.add_plain, Nat.zero_add, new_cell]
  simpa using hu

set_option maxRecDepth 100000 in
set_option maxHeartbeats 2000000 in
theorem implLoadAtPlace_ok (c : Crn) (Ai : Option Addr) (ni ci lo hi : Nat) (x y : Int) (hc : crB c = true) (hnm : c.nm.size ≤ maxLen) (hp : plB x y = true) (hni : c.ch.length = ni) {v : Int} (hv : ldX c x y = v) (w : World) (hr : Rd w lo hi 2 Ai ni (rChartStep c.ch)) (hhi : hi ≤ w.heap.size) :
    Calls Try.prog 108 #[.agg #[.string c.nm, .int .i64 c.x, .int .i64 c.y, .int .i64 c.h, .int .i64 c.j, .int .i64 c.b, .slice Ai ni ci], .agg #[.int .i64 x, .int .i64 y]] w fun e w' => (∃ a : Int, e = .returned (.tuple #[.int .i64 a, .int .i64 (lcd v)])) ∧ Below w.heap.size w w' := by
  have HPC := (crB_true hc).2.1
  have HCHB := (crB_true hc).2.2.2.2.2.1
  have hlen := (chB_true HCHB).2.2
  rw [hni] at hlen
  have HV := hide hv
  have HC := hide hc
  have HP := hide hp
  have HPC' := hide HPC
  have HCB := hide HCHB
  have HNI := hide hni
  clear hv hc hp HPC HCHB hni
  go_enter Try.func108, Try.ntmps108
  go_wp2_with fail
  obtain ⟨W0, hW0⟩ : ∃ W0 : World, W0 = ((w.alloc (.cells #[.string c.nm, .int .i64 c.x, .int .i64 c.y, .int .i64 c.h, .int .i64 c.j, .int .i64 c.b, .slice Ai ni ci] 85)).alloc (.cells #[.int .i64 x, .int .i64 y] 56)) := ⟨_, rfl⟩
  rw [← hW0]
  have kc : Box W0 (w.heap.size) [.string c.nm, .int .i64 c.x, .int .i64 c.y, .int .i64 c.h, .int .i64 c.j, .int .i64 c.b, .slice Ai ni ci] := by rw [hW0]; exact (box_at _ _ _ _ (by simp)).alloc (by simp) _
  have kp : Box W0 (w.heap.size + 1) [.int .i64 x, .int .i64 y] := by rw [hW0]; exact box_at _ _ _ _ (by simp)
  have hB : Below w.heap.size w W0 := by rw [hW0]; exact (by repeat (first | exact Below.refl _ _ | refine Below.drew ?_ | refine Below.alloc ?_ (by first | (simp; done) | (simp; omega)) _))
  have hs0 : w.heap.size + 2 ≤ W0.heap.size := by rw [hW0]; first | (simp; done) | (simp; omega)
  clear hW0
  replace hr := hr.below hB (by omega)
  have nkc : w.heap.size < W0.heap.size := by omega
  have lkc_0 := kc 0 _ rfl
  have lkc_1 := kc 1 _ rfl
  have lkc_2 := kc 2 _ rfl
  have lkc_3 := kc 3 _ rfl
  have lkc_4 := kc 4 _ rfl
  have lkc_5 := kc 5 _ rfl
  have lkc_6 := kc 6 _ rfl
  have nkp : w.heap.size + 1 < W0.heap.size := by omega
  have lkp_0 := kp 0 _ rfl
  have lkp_1 := kp 1 _ rfl
  go_wp2_with fail
  refine (crane_is HNI.out (by omega) hnm (by omega) hr HC.out).mono ?_
  rintro e w1 ⟨rfl, hb⟩
  have hbb : Below W0.heap.size W0 w1 := Below.trans (by repeat (first | exact Below.refl _ _ | refine Below.drew ?_ | refine Below.alloc ?_ (by first | (simp; done) | (simp; omega)) _)) (Below.mono hb (by simp))
  clear hb
  have hs1 := hbb.size
  replace hr := hr.below hbb (by omega)
  replace kc := kc.below hbb (by omega)
  replace kp := kp.below hbb (by omega)
  replace hB := hB.trans (hbb.mono (by omega))
  clear hbb
  clear nkc lkc_0 lkc_1 lkc_2 lkc_3 lkc_4 lkc_5 lkc_6 nkp lkp_0 lkp_1
  have nkc : w.heap.size < w1.heap.size := by omega
  have lkc_0 := kc 0 _ rfl
  have lkc_1 := kc 1 _ rfl
  have lkc_2 := kc 2 _ rfl
  have lkc_3 := kc 3 _ rfl
  have lkc_4 := kc 4 _ rfl
  have lkc_5 := kc 5 _ rfl
  have lkc_6 := kc 6 _ rfl
  have nkp : w.heap.size + 1 < w1.heap.size := by omega
  have lkp_0 := kp 0 _ rfl
  have lkp_1 := kp 1 _ rfl
  go_wp2_with fail
  refine (implValidPlace_is HP.out).mono ?_
  rintro e w2 ⟨rfl, hb⟩
  have hbb : Below w1.heap.size w1 w2 := Below.trans (by repeat (first | exact Below.refl _ _ | refine Below.drew ?_ | refine Below.alloc ?_ (by first | (simp; done) | (simp; omega)) _)) (Below.mono hb (by simp))
  clear hb
  have hs2 := hbb.size
  replace hr := hr.below hbb (by omega)
  replace kc := kc.below hbb (by omega)
  replace kp := kp.below hbb (by omega)
  replace hB := hB.trans (hbb.mono (by omega))
  clear hbb
  clear nkc lkc_0 lkc_1 lkc_2 lkc_3 lkc_4 lkc_5 lkc_6 nkp lkp_0 lkp_1
  have nkc : w.heap.size < w2.heap.size := by omega
  have lkc_0 := kc 0 _ rfl
  have lkc_1 := kc 1 _ rfl
  have lkc_2 := kc 2 _ rfl
  have lkc_3 := kc 3 _ rfl
  have lkc_4 := kc 4 _ rfl
  have lkc_5 := kc 5 _ rfl
  have lkc_6 := kc 6 _ rfl
  have nkp : w.heap.size + 1 < w2.heap.size := by omega
  have lkp_0 := kp 0 _ rfl
  have lkp_1 := kp 1 _ rfl
  go_wp2_with fail
  refine (loadAtPlace_is HPC'.out HP.out HCB.out HNI.out HV.out hr (by omega)).mono ?_
  rintro e w3 ⟨rfl, hb⟩
  have hbb : Below w2.heap.size w2 w3 := Below.trans (by repeat (first | exact Below.refl _ _ | refine Below.drew ?_ | refine Below.alloc ?_ (by first | (simp; done) | (simp; omega)) _)) (Below.mono hb (by simp))
  clear hb
  have hs3 := hbb.size
  replace hr := hr.below hbb (by omega)
  replace kc := kc.below hbb (by omega)
  replace kp := kp.below hbb (by omega)
  replace hB := hB.trans (hbb.mono (by omega))
  clear hbb
  clear nkc lkc_0 lkc_1 lkc_2 lkc_3 lkc_4 lkc_5 lkc_6 nkp lkp_0 lkp_1
  by_cases hneg : v < 0
  · have e1 : ldK v = false := by simp [ldK, hneg]
    have e2 : lcd v = 3 := by unfold lcd; rw [if_pos hneg]
    have E := hide e2
    rw [e1]
    clear e1 e2
    go_wp2_with fail
    go_ret2
    exact ⟨ret_lc E.out, hB⟩
  · have e1 : ldK v = true := ldK_in (by omega)
    have e2 : lcd v = 0 := by unfold lcd; rw [if_neg hneg]
    have E := hide e2
    rw [e1]
    clear e1 e2
    go_wp2_with fail
    go_ret2
    exact ⟨ret_lc E.out, hB⟩

set_option maxRecDepth 100000 in
set_option maxHeartbeats 2000000 in
theorem reaches_any (c : Crn) (Ai : Option Addr) (ni ci lo hi : Nat) (x y : Int) (hc : crB c = true) (hnm : c.nm.size ≤ maxLen) (hp : plB x y = true) (hni : c.ch.length = ni) (w : World) (hr : Rd w lo hi 2 Ai ni (rChartStep c.ch)) (hhi : hi ≤ w.heap.size) :
    Calls Try.prog 80 #[.agg #[.string c.nm, .int .i64 c.x, .int .i64 c.y, .int .i64 c.h, .int .i64 c.j, .int .i64 c.b, .slice Ai ni ci], .agg #[.int .i64 x, .int .i64 y]] w fun e w' => e = .returned (.bool (decide (0 ≤ ldX c x y))) ∧ Below w.heap.size w w' := by
  obtain ⟨v, hv⟩ : ∃ v, ldX c x y = v := ⟨_, rfl⟩
  have HV := hide hv
  rw [hv]
  clear hv
  go_enter Try.func80, Try.ntmps80
  go_wp2_with fail
  obtain ⟨W0, hW0⟩ : ∃ W0 : World, W0 = ((w.alloc (.cells #[.string c.nm, .int .i64 c.x, .int .i64 c.y, .int .i64 c.h, .int .i64 c.j, .int .i64 c.b, .slice Ai ni ci] 85)).alloc (.cells #[.int .i64 x, .int .i64 y] 56)) := ⟨_, rfl⟩
  rw [← hW0]
  have kc : Box W0 (w.heap.size) [.string c.nm, .int .i64 c.x, .int .i64 c.y, .int .i64 c.h, .int .i64 c.j, .int .i64 c.b, .slice Ai ni ci] := by rw [hW0]; exact (box_at _ _ _ _ (by simp)).alloc (by simp) _
  have kp : Box W0 (w.heap.size + 1) [.int .i64 x, .int .i64 y] := by rw [hW0]; exact box_at _ _ _ _ (by simp)
  have hB : Below w.heap.size w W0 := by rw [hW0]; exact (by repeat (first | exact Below.refl _ _ | refine Below.drew ?_ | refine Below.alloc ?_ (by first | (simp; done) | (simp; omega)) _))
  have hs0 : w.heap.size + 2 ≤ W0.heap.size := by rw [hW0]; first | (simp; done) | (simp; omega)
  clear hW0
  replace hr := hr.below hB (by omega)
  have nkc : w.heap.size < W0.heap.size := by omega
  have lkc_0 := kc 0 _ rfl
  have lkc_1 := kc 1 _ rfl
  have lkc_2 := kc 2 _ rfl
  have lkc_3 := kc 3 _ rfl
  have lkc_4 := kc 4 _ rfl
  have lkc_5 := kc 5 _ rfl
  have lkc_6 := kc 6 _ rfl
  have nkp : w.heap.size + 1 < W0.heap.size := by omega
  have lkp_0 := kp 0 _ rfl
  have lkp_1 := kp 1 _ rfl
  go_wp2_with fail
  refine (implLoadAtPlace_ok c Ai ni ci lo hi x y hc hnm hp hni HV.out _ hr (by omega)).mono ?_
  rintro e w1 ⟨⟨a, rfl⟩, hb⟩
  have hbb : Below W0.heap.size W0 w1 := Below.trans (by repeat (first | exact Below.refl _ _ | refine Below.drew ?_ | refine Below.alloc ?_ (by first | (simp; done) | (simp; omega)) _)) (Below.mono hb (by simp))
  clear hb
  have hs1 := hbb.size
  replace hr := hr.below hbb (by omega)
  replace kc := kc.below hbb (by omega)
  replace kp := kp.below hbb (by omega)
  replace hB := hB.trans (hbb.mono (by omega))
  clear hbb
  clear nkc lkc_0 lkc_1 lkc_2 lkc_3 lkc_4 lkc_5 lkc_6 nkp lkp_0 lkp_1
  by_cases hneg : v < 0
  · have e2 : lcd v = 3 := by unfold lcd; rw [if_pos hneg]
    have e3 : decide (0 ≤ v) = false := by simp; omega
    have E := hide e3
    rw [e2]
    clear e2 e3
    go_wp2_with fail
    go_ret
    exact ⟨ret_bool E.out.symm, hB⟩
  · have e2 : lcd v = 0 := by unfold lcd; rw [if_neg hneg]
    have e3 : decide (0 ≤ v) = true := by simp; omega
    have E := hide e3
    rw [e2]
    clear e2 e3
    go_wp2_with fail
    go_ret
    exact ⟨ret_bool E.out.symm, hB⟩

set_option maxRecDepth 100000 in
set_option maxHeartbeats 2000000 in
theorem cover1_any (c : Crn) (Ai : Option Addr) (ni ci lo hi : Nat) (x y : Int) (hc : crB c = true) (hnm : c.nm.size ≤ maxLen) (hp : plB x y = true) (hni : c.ch.length = ni) (k : Int) (bp : Nat) (w : World) (hbp : bp < w.heap.size) (h0 : w.cell? ⟨bp, 0, none⟩ = some (.int .i64 x)) (h1 : w.cell? ⟨bp, 1, none⟩ = some (.int .i64 y)) (hr : Rd w lo hi 2 Ai ni (rChartStep c.ch)) (hhi : hi ≤ w.heap.size) :
    Calls Try.prog 79 #[.int .i64 k, .agg #[.string c.nm, .int .i64 c.x, .int .i64 c.y, .int .i64 c.h, .int .i64 c.j, .int .i64 c.b, .slice Ai ni ci], .pointer (some ⟨bp, 0, none⟩)] w fun e w' => e = .returned (.bool (decide (0 ≤ ldX c x y))) ∧ Below w.heap.size w w' := by
  obtain ⟨r, hrr⟩ : ∃ r, decide (0 ≤ ldX c x y) = r := ⟨_, rfl⟩
  have HRR := hide hrr
  rw [hrr]
  clear hrr
  have HR := hide hr
  clear hr
  go_enter Try.func79, Try.ntmps79
  go_wp2_with fail
  refine (reaches_any c Ai ni ci lo hi x y hc hnm hp hni _ (HR.out.alloc hhi _) (by simp; omega)).mono ?_
  rintro e w1 ⟨rfl, hb1⟩
  have hB := ((Below.refl _ _).alloc (Nat.le_refl _) _).trans (hb1.mono (by simp))
  clear hb1 h0 h1
  rw [HRR.out]
  go_wp2_with fail
  go_ret
  exact ⟨rfl, hB⟩

set_option maxRecDepth 100000 in
set_option maxHeartbeats 2000000 in
theorem thatC_any (A : Option Addr) (n c lo hi : Nat) (own : Bool) (l : List Crn) (hn : n ≤ 1048576) (hnm : ∀ p ∈ l, p.nm.size ≤ maxLen) (hs : siteB l = true) (w : World) (h : RdC w lo hi own A n l) (hhi : hi ≤ w.heap.size) (x y : Int) (hp : plB x y = true) (bp : Nat) (hbp : bp < w.heap.size) (h0 : w.cell? ⟨bp, 0, none⟩ = some (.int .i64 x)) (h1 : w.cell? ⟨bp, 1, none⟩ = some (.int .i64 y)) :
    Calls Try.prog 77 #[.agg #[.slice A n c], .func (.func 79) #[] #[.pointer (some ⟨bp, 0, none⟩)]] w fun e w' => ∃ v, e = .returned v ∧ Own w' w.heap.size w'.heap.size 2 1 v (flt (cvP l x y) n).length (rInt64 (flt (cvP l x y) n)) ∧ Below w.heap.size w w' := by
  obtain ⟨i0, hi0, hz0, hz1, hz2⟩ := info_parts infoInt64
  have I := hide (And.intro hi0 (And.intro hz0 (And.intro hz1 hz2)))
  clear hi0 hz0 hz1 hz2
  have H1 := hide h.length
  have HNM := hide hnm
  have HCR := hide (siteB_cr hs).1
  have hl6 := (siteB_cr hs).2.2
  rw [H1.out] at hl6
  clear hnm hs
  have HPL := hide hp
  have HQ0 := hide (And.intro h0 h1)
  clear hp h0 h1
  obtain ⟨W0, hW0⟩ : ∃ W0 : World, (w.alloc (.cells #[.slice A n c] 36)) = W0 := ⟨_, rfl⟩
  have hb0 : Below w.heap.size w W0 := by rw [← hW0]; exact (Below.refl _ _).alloc (Nat.le_refl _) _
  have hz0 : W0.heap.size = w.heap.size + 1 := by rw [← hW0]; simp
  have hc0 : W0.cell? ⟨w.heap.size, 0, none⟩ = some (.slice A n c) := by rw [← hW0]; exact new_cell _ _ _ 0
  have HW0 := hide hW0
  have HC0 := hide hc0
  have H2 := hide h
  clear hW0 h hc0
  go_enter Try.func77, Try.ntmps77
  go_wp2_with fail
  go_loopw [5, 11] (fun v ii wr => ∃ k : Nat, k ≤ n ∧ ii = .int .i64 k ∧ wr.ownsRow w.heap.size 2 1 v (flt (cvP l x y) k).length (rInt64 (flt (cvP l x y) k)) ∧ Below w.heap.size w wr) (fun _ ii _ => n - (intOf ii).toNat)
  case atStart => exact ⟨0, by omega, rfl, World.ownsRow_nil _ _ _ _, (Below.refl _ _).alloc (Nat.le_refl _) _⟩
  case round =>
    obtain ⟨k, hk, rfl, ho, hbr⟩ := hrel
    have hsz := hbr.size
    by_cases hlt : k < n
    · skip
      have hil : k < l.length := by rw [H1.out]; exact hlt
      obtain ⟨b, off, Ai, ci, hA, hb1', hb2', c0, c1, c2, c3, c4, c5, c6, hcm, hrd⟩ := (H2.out.below hbr hhi).at_ hil
      subst hA
      have HRD := hide hrd
      clear hrd
      have hbw : b < wr.heap.size := by omega
      have hhr : hi ≤ wr.heap.size := by omega
      have HC := hide (HCR.out _ (List.getElem_mem hil))
      have HNK := hide (HNM.out _ (List.getElem_mem hil))
      have HLE := flt_len (cvP l x y) k
      have hbpr : bp < wr.heap.size := by omega
      have HQA : Hid (∀ o : Obj, (wr.alloc o).cell? ⟨bp, 0, none⟩ = some (.int .i64 x) ∧ (wr.alloc o).cell? ⟨bp, 1, none⟩ = some (.int .i64 y)) := hide (fun o => ⟨((hbr.alloc hsz o).cell (p := ⟨bp, 0, none⟩) hbp).trans HQ0.out.1, ((hbr.alloc hsz o).cell (p := ⟨bp, 1, none⟩) hbp).trans HQ0.out.2⟩)
      obtain ⟨r, hr⟩ : ∃ r, decide (0 ≤ ldX l[k] x y) = r := ⟨_, rfl⟩
      have HRR := hide hr
      have HP := hide (cvP_at hil hr)
      clear hr
      have z1 : (k : Int) < (n : Int) := by omega
      obtain ⟨ni, hni⟩ : ∃ ni, l[k].ch.length = ni := ⟨_, rfl⟩
      have HNI := hide hni
      rw [hni] at c6 hcm HRD
      clear hni
      generalize l[k] = cr at *
      have Ho := hide ho
      clear ho
      go_wp2_with fail
      refine (cover1_any cr Ai ni ci lo hi x y HC.out HNK.out HPL.out HNI.out k bp _ (by simp; omega) (HQA.out _).1 (HQA.out _).2 (HRD.out.alloc hhr _) (by simp; omega)).mono ?_
      rintro e w1 ⟨rfl, hb1⟩
      rw [HRR.out]
      clear c0 c1 c2 c3 c4 c5 c6
      have hb2 : Below wr.heap.size wr w1 := ((Below.refl _ _).alloc (Nat.le_refl _) _).trans (hb1.mono (by simp))
      clear hb1
      have hs2 := hb2.size
      have Ho2 := hide (owns_below Ho.out hb2)
      clear Ho
      have hbz := hbr.trans (hb2.mono hsz)
      cases r
      case false =>
        have E := hide (flt_no HP.out)
        go_wp2_with fail
        go_roundw
        case rel => exact ⟨k + 1, by omega, by go_num, by rw [E.out]; exact Ho2.out, hbz⟩
        case measure => simp [intOf]; omega
      have E := hide (flt_yes HP.out)
      have Ho := Ho2
      go_wp2_with (at_builtin; refine wpList_append_own _ rfl (.tmp 20) (.tmp 22) 65 rfl w.heap.size 2 i0 (.int .i64 0) 1 8 Try.underlying65 I.out.1 I.out.2.1 I.out.2.2.1 I.out.2.2.2 rfl (by decide) _ _ _ rfl (Ho.out.alloc _) ⟨w1.heap.size, 0, none⟩ 1 1 [.int .i64 (k : Int)] rfl rfl (cell_one_at _ _ _ _ rfl) (by simp [Value.oneCell']) (by unfold maxLen; omega) (by omega) (by simp; omega) ?_; intro v' wn hown' hgrow _)
      go_roundw
      case rel => exact ⟨k + 1, by omega, by go_num, by rw [E.out, rInt64_sn, List.length_append]; exact hown', (hbz.alloc hbz.size _).grown hgrow (by simp; omega) (fun g hg => (Ho.out.lt g hg).1)⟩
      case measure => simp [intOf]; omega
    · obtain rfl : k = n := by omega
      go_wp2_with fail
      go_ret
      exact ⟨_, rfl, Own.of_owns ho, hbr⟩

set_option maxRecDepth 100000 in
set_option maxHeartbeats 2000000 in
theorem specCoverOf_any (A : Option Addr) (n c lo hi : Nat) (own : Bool) (l : List Crn) (hn : n ≤ 1048576) (hch : ∀ p ∈ l, p.ch.length ≤ 1048576) (hnm : ∀ p ∈ l, p.nm.size ≤ maxLen) (w : World) (h : RdC w lo hi own A n l) (hhi : hi ≤ w.heap.size) (x y : Int) :
    Calls Try.prog 44 #[.agg #[.slice A n c], .agg #[.int .i64 x, .int .i64 y]] w fun e w' => ∃ v, e = .returned (.tuple #[v, .int .i64 (cvC l x y)]) ∧ Own w' w.heap.size w'.heap.size 2 1 v (cvL l x y).length (rInt64 (cvL l x y)) ∧ Below w.heap.size w w' := by
  have h' := h.length
  obtain ⟨i0, hi0, hz0, hz1, hz2⟩ := info_parts infoInt64
  have I := hide (And.intro hi0 (And.intro hz0 (And.intro hz1 hz2)))
  clear hi0 hz0 hz1 hz2
  have HCH := hide hch
  have HNM := hide hnm
  clear hch hnm
  obtain ⟨W1, hW1⟩ : ∃ W1 : World, (w.alloc (.cells #[.slice A n c] 36)) = W1 := ⟨_, rfl⟩
  obtain ⟨W0, hW0⟩ : ∃ W0 : World, W1.alloc (.cells #[.int .i64 x, .int .i64 y] 56) = W0 := ⟨_, rfl⟩
  have hb01 : Below w.heap.size w W1 := by rw [← hW1]; exact (Below.refl _ _).alloc (Nat.le_refl _) _
  have hz1 : W1.heap.size = w.heap.size + 1 := by rw [← hW1]; simp
  have hb10 : Below W1.heap.size W1 W0 := by rw [← hW0]; exact (Below.refl _ _).alloc (Nat.le_refl _) _
  have hz0 : W0.heap.size = W1.heap.size + 1 := by rw [← hW0]; simp
  have hb0 : Below w.heap.size w W0 := hb01.trans (hb10.mono (by omega))
  obtain ⟨bs, hbs⟩ : ∃ bs, w.heap.size = bs := ⟨_, rfl⟩
  have hbp : W1.heap.size = bs + 1 := by omega
  have HC0 : Hid (W0.cell? ⟨bs, 0, none⟩ = some (.slice A n c)) := hide (by rw [hb10.cell (p := ⟨bs, 0, none⟩) (by show bs < _; omega), ← hW1, ← hbs]; exact new_cell _ _ _ 0)
  have HP0 : Hid (W0.cell? ⟨bs + 1, 0, none⟩ = some (.int .i64 x)) := hide (by rw [← hW0, ← hbp]; exact new_cell _ _ _ 0)
  have HP1 : Hid (W0.cell? ⟨bs + 1, 1, none⟩ = some (.int .i64 y)) := hide (by rw [← hW0, ← hbp]; exact new_cell _ _ _ 1)
  have HW0 := hide hW0
  have HW1 := hide hW1
  have HR0 := hide (h.below hb0 hhi)
  have hh0 : hi ≤ W0.heap.size := by omega
  have hbs' : bs < W0.heap.size := by omega
  have hbp' : bs + 1 < W0.heap.size := by omega
  clear h hW0 hW1
  cases e1 : siteB l
  case false =>
    have E : Hid (cvL l x y = [] ∧ cvC l x y = 1) := hide (by simp [cvL, cvC, e1])
    go_enter Try.func44, Try.ntmps44
    skip
    go_wp2_with fail
    rw [HW1.out]
    rw [HW0.out]
    try rw [hbs]
    refine (l04Site_any bs 0 A n c lo hi own l hn HCH.out HNM.out _ hbs' HC0.out HR0.out hh0).mono ?_
    rintro e w1 ⟨rfl, hb1⟩
    have hs1 := hb1.size
    have q0 := (hb1.cell (p := ⟨bs, 0, none⟩) hbs').trans HC0.out
    have q1 := (hb1.cell (p := ⟨bs + 1, 0, none⟩) hbp').trans HP0.out
    have q2 := (hb1.cell (p := ⟨bs + 1, 1, none⟩) hbp').trans HP1.out
    rw [e1]
    go_wp2_with fail
    go_ret2
    exact ⟨_, retc E.out.2, by rw [E.out.1]; exact Own.of_owns (World.ownsRow_nil _ _ _ _), hb0.trans (hb1.mono (by omega))⟩
  cases e2 : plB x y
  case false =>
    have E : Hid (cvL l x y = [] ∧ cvC l x y = 1) := hide (by simp [cvL, cvC, e2])
    go_enter Try.func44, Try.ntmps44
    skip
    go_wp2_with fail
    rw [HW1.out]
    rw [HW0.out]
    try rw [hbs]
    refine (l04Site_any bs 0 A n c lo hi own l hn HCH.out HNM.out _ hbs' HC0.out HR0.out hh0).mono ?_
    rintro e w1 ⟨rfl, hb1⟩
    have hs1 := hb1.size
    have q0 := (hb1.cell (p := ⟨bs, 0, none⟩) hbs').trans HC0.out
    have q1 := (hb1.cell (p := ⟨bs + 1, 0, none⟩) hbp').trans HP0.out
    have q2 := (hb1.cell (p := ⟨bs + 1, 1, none⟩) hbp').trans HP1.out
    rw [e1]
    go_wp2_with fail
    refine (l02Ok_is e2).mono ?_
    rintro e w2 ⟨rfl, hb2⟩
    have hb2 : Below W0.heap.size W0 w2 := hb1.trans (hb2.mono hs1)
    have hs2 := hb2.size
    clear q0 q1 q2
    have q0 := (hb2.cell (p := ⟨bs, 0, none⟩) hbs').trans HC0.out
    have q1 := (hb2.cell (p := ⟨bs + 1, 0, none⟩) hbp').trans HP0.out
    have q2 := (hb2.cell (p := ⟨bs + 1, 1, none⟩) hbp').trans HP1.out
    go_wp2_with fail
    go_ret2
    exact ⟨_, retc E.out.2, by rw [E.out.1]; exact Own.of_owns (World.ownsRow_nil _ _ _ _), hb0.trans (hb2.mono (by omega))⟩
  have HLEN := hide h'
  have HCR := hide (siteB_cr e1).1
  have hl6 := (siteB_cr e1).2.2
  rw [h'] at hl6
  have E : Hid (cvL l x y = flt (cvP l x y) n ∧ cvC l x y = 0) := hide (by unfold cvL cvC; rw [if_pos ⟨e1, e2⟩, if_pos ⟨e1, e2⟩, h']; exact ⟨rfl, rfl⟩)
  have HPL := hide e2
  clear h'
  go_enter Try.func44, Try.ntmps44
  skip
  go_wp2_with fail
  rw [HW1.out]
  rw [HW0.out]
  try rw [hbs]
  refine (l04Site_any bs 0 A n c lo hi own l hn HCH.out HNM.out _ hbs' HC0.out HR0.out hh0).mono ?_
  rintro e w1 ⟨rfl, hb1⟩
  have hs1 := hb1.size
  have q0 := (hb1.cell (p := ⟨bs, 0, none⟩) hbs').trans HC0.out
  have q1 := (hb1.cell (p := ⟨bs + 1, 0, none⟩) hbp').trans HP0.out
  have q2 := (hb1.cell (p := ⟨bs + 1, 1, none⟩) hbp').trans HP1.out
  rw [e1]
  go_wp2_with fail
  refine (l02Ok_is e2).mono ?_
  rintro e w2 ⟨rfl, hb2⟩
  have hb2 : Below W0.heap.size W0 w2 := hb1.trans (hb2.mono hs1)
  have hs2 := hb2.size
  clear q0 q1 q2
  have q0 := (hb2.cell (p := ⟨bs, 0, none⟩) hbs').trans HC0.out
  have q1 := (hb2.cell (p := ⟨bs + 1, 0, none⟩) hbp').trans HP0.out
  have q2 := (hb2.cell (p := ⟨bs + 1, 1, none⟩) hbp').trans HP1.out
  go_wp2_with fail
  go_loopw [6, 7] (fun v ii wr => ∃ k : Nat, k ≤ n ∧ ii = .int .i64 k ∧ wr.ownsRow W0.heap.size 2 1 v (flt (cvP l x y) k).length (rInt64 (flt (cvP l x y) k)) ∧ Below W0.heap.size W0 wr) (fun _ ii _ => n - (intOf ii).toNat)
  case atStart => exact ⟨0, by omega, rfl, World.ownsRow_made _ _ 0 (by omega) (Nat.zero_le _) rfl, hb2.alloc (by omega) _⟩
  case round =>
    clear q0 q1 q2
    obtain ⟨i, hi', rfl, ho, hbr⟩ := hrel
    have hsz := hbr.size
    have q0 := (hbr.cell (p := ⟨bs, 0, none⟩) hbs').trans HC0.out
    have q1 := (hbr.cell (p := ⟨bs + 1, 0, none⟩) hbp').trans HP0.out
    have q2 := (hbr.cell (p := ⟨bs + 1, 1, none⟩) hbp').trans HP1.out
    by_cases hlt : i < n
    · skip
      have hil : i < l.length := by rw [HLEN.out]; exact hlt
      obtain ⟨b, off, Ai, ci, hA, hb1', hb2', c0, c1, c2, c3, c4, c5, c6, hcm, hrd⟩ := (HR0.out.below hbr hh0).at_ hil
      subst hA
      have HRD := hide hrd
      clear hrd
      have hbw : b < wr.heap.size := by omega
      have hhr : hi ≤ wr.heap.size := by omega
      have hbsw : bs < wr.heap.size := by omega
      have hbpw : bs + 1 < wr.heap.size := by omega
      have HC := HCR.out _ (List.getElem_mem hil)
      have HPC : Hid (plB l[i].x l[i].y = true) := hide (crB_true HC).2.1
      have HCHB : Hid (chB l[i].ch = true) := hide (crB_true HC).2.2.2.2.2.1
      have HB := ldX_bd HC x y
      clear HC
      obtain ⟨r, hr⟩ : ∃ r, decide (0 ≤ ldX l[i] x y) = r := ⟨_, rfl⟩
      have HP := hide (cvP_at hil hr)
      obtain ⟨v, hv⟩ : ∃ v, ldX l[i] x y = v := ⟨_, rfl⟩
      have HV : Hid (ldI l[i].ch (rt (sqD l[i].x l[i].y x y)) = v) := hide hv
      rw [hv] at HB hr
      clear hv
      have z0 : (0 : Int) ≤ (i : Int) := by omega
      have z1 : (i : Int) < (n : Int) := by omega
      have HLE := flt_len (cvP l x y) i
      obtain ⟨ni, hni⟩ : ∃ ni, l[i].ch.length = ni := ⟨_, rfl⟩
      have HNI := hide hni
      rw [hni] at c6 hcm HRD
      clear hni
      generalize l[i].ch = ch at *
      generalize l[i].nm = nm at *
      generalize l[i].x = cx at *
      generalize l[i].y = cy at *
      generalize l[i].h = hh at *
      generalize l[i].j = jj at *
      generalize l[i].b = bb at *
      have Ho := hide ho
      clear ho
      have HSS : Hid ((World.drew wr).cell? ⟨bs, 0, none⟩ = some (.slice (some ⟨b, off, none⟩) n c) ∧ (World.drew wr).cell? ⟨bs + 1, 0, none⟩ = some (.int .i64 x) ∧ (World.drew wr).cell? ⟨bs + 1, 1, none⟩ = some (.int .i64 y) ∧ (World.drew wr).cell? ⟨b, off + i * 7 + 1, none⟩ = some (.int .i64 cx) ∧ (World.drew wr).cell? ⟨b, off + i * 7 + 2, none⟩ = some (.int .i64 cy) ∧ (World.drew wr).cell? ⟨b, off + i * 7 + 6, none⟩ = some (.slice Ai ni ci)) := hide ⟨q0, q1, q2, c1, c2, c6⟩
      have hbd : b < (World.drew wr).heap.size := hbw
      have hhd : hi ≤ (World.drew wr).heap.size := hhr
      have HRDD : Hid (Rd (World.drew wr) lo hi 2 Ai ni (rChartStep ch)) := hide (HRD.out.below ((Below.refl wr.heap.size wr).trans (Joins.below_draws _ _ 1 : Below wr.heap.size wr (World.drew wr))) hhr)
      go_wp2_with fail
      clear q0 q1 q2 c0 c1 c2 c3 c4 c5 c6
      go_region_held3 (fun W => W.cell? ⟨bs, 0, none⟩ = some (.slice (some ⟨b, off, none⟩) n c) ∧ W.cell? ⟨bs + 1, 0, none⟩ = some (.int .i64 x) ∧ W.cell? ⟨bs + 1, 1, none⟩ = some (.int .i64 y) ∧ W.cell? ⟨b, off + i * 7 + 1, none⟩ = some (.int .i64 cx) ∧ W.cell? ⟨b, off + i * 7 + 2, none⟩ = some (.int .i64 cy) ∧ W.cell? ⟨b, off + i * 7 + 6, none⟩ = some (.slice Ai ni ci)) (with_reducible exact HSS.out) (first | (go_at_call 67; (with_reducible refine (l04Load_is HPC.out HPL.out HCHB.out HNI.out HV.out hbd HSS.out.2.2.2.1 HSS.out.2.2.2.2.1 HSS.out.2.2.2.2.2 HRDD.out hhd).mono ?_); rintro e w3 ⟨rfl, hq3⟩; have hz3 : wr.heap.size ≤ w3.heap.size := hq3.size; have HSS : Hid (w3.cell? ⟨bs, 0, none⟩ = some (.slice (some ⟨b, off, none⟩) n c) ∧ w3.cell? ⟨bs + 1, 0, none⟩ = some (.int .i64 x) ∧ w3.cell? ⟨bs + 1, 1, none⟩ = some (.int .i64 y) ∧ w3.cell? ⟨b, off + i * 7 + 1, none⟩ = some (.int .i64 cx) ∧ w3.cell? ⟨b, off + i * 7 + 2, none⟩ = some (.int .i64 cy) ∧ w3.cell? ⟨b, off + i * 7 + 6, none⟩ = some (.slice Ai ni ci)) := hide ⟨(hq3.cell (p := ⟨bs, 0, none⟩) (by show bs < wr.heap.size; omega)).trans HSS.out.1, (hq3.cell (p := ⟨bs + 1, 0, none⟩) (by show bs + 1 < wr.heap.size; omega)).trans HSS.out.2.1, (hq3.cell (p := ⟨bs + 1, 1, none⟩) (by show bs + 1 < wr.heap.size; omega)).trans HSS.out.2.2.1, (hq3.cell (p := ⟨b, off + i * 7 + 1, none⟩) (by show b < wr.heap.size; omega)).trans HSS.out.2.2.2.1, (hq3.cell (p := ⟨b, off + i * 7 + 2, none⟩) (by show b < wr.heap.size; omega)).trans HSS.out.2.2.2.2.1, (hq3.cell (p := ⟨b, off + i * 7 + 6, none⟩) (by show b < wr.heap.size; omega)).trans HSS.out.2.2.2.2.2⟩))
      have hb3 : Below wr.heap.size wr w3 := (Joins.below_draws _ _ 1 : Below wr.heap.size wr (World.drew wr)).trans hq3
      have hbz : Below W0.heap.size W0 w3 := hbr.trans (hb3.mono hsz)
      clear HSS HRDD
      have Ho2 := hide (owns_below Ho.out hb3)
      clear Ho
      cases r
      case false =>
        have hneg : ¬ 0 ≤ v := by simpa using hr
        have F1 := hide (flt_no HP.out)
        go_wp2_with fail
        go_roundw
        case rel => exact ⟨i + 1, by omega, by go_num, by rw [F1.out]; exact Ho2.out, hbz⟩
        case measure => simp [intOf]; omega
      have hpos : 0 ≤ v := by simpa using hr
      have F1 := hide (flt_yes HP.out)
      have Ho := Ho2
      go_wp2_with (at_builtin; refine wpList_append_own _ rfl (.tmp 30) (.tmp 32) 65 rfl W0.heap.size 2 i0 (.int .i64 0) 1 8 Try.underlying65 I.out.1 I.out.2.1 I.out.2.2.1 I.out.2.2.2 rfl (by decide) _ _ _ rfl (Ho.out.alloc _) ⟨w3.heap.size, 0, none⟩ 1 1 [.int .i64 (i : Int)] rfl rfl (cell_one_at _ _ _ _ rfl) (by simp [Value.oneCell']) (by unfold maxLen; omega) (by omega) (by simp; omega) ?_; intro v' wn hown' hgrow _)
      go_roundw
      case rel => exact ⟨i + 1, by omega, by go_num, by rw [F1.out, rInt64_sn, List.length_append]; exact hown', (hbz.alloc hbz.size _).grown hgrow (by simp; omega) (fun g hg => (Ho.out.lt g hg).1)⟩
      case measure => simp [intOf]; omega
    · obtain rfl : i = n := by omega
      go_wp2_with fail
      go_ret2
      exact ⟨_, retc E.out.2, by rw [E.out.1]; exact (Own.of_owns ho).mono (by omega) (Nat.le_refl _), hb0.trans (hbr.mono (by omega))⟩

set_option maxRecDepth 100000 in
set_option maxHeartbeats 2000000 in
theorem implCoverOf_any (A : Option Addr) (n c lo hi : Nat) (own : Bool) (l : List Crn) (hn : n ≤ 1048576) (hch : ∀ p ∈ l, p.ch.length ≤ 1048576) (hnm : ∀ p ∈ l, p.nm.size ≤ maxLen) (w : World) (h : RdC w lo hi own A n l) (hhi : hi ≤ w.heap.size) (x y : Int) (hnc : n ≤ c) :
    Calls Try.prog 45 #[.agg #[.slice A n c], .agg #[.int .i64 x, .int .i64 y]] w fun e w' => ∃ v, e = .returned (.tuple #[v, .int .i64 (cvC l x y)]) ∧ Own w' w.heap.size w'.heap.size 2 1 v (cvL l x y).length (rInt64 (cvL l x y)) ∧ Below w.heap.size w w' := by
  have h' := h.length
  have HCH := hide hch
  have HNM := hide hnm
  clear hch hnm
  obtain ⟨W1, hW1⟩ : ∃ W1 : World, (w.alloc (.cells #[.slice A n c] 36)) = W1 := ⟨_, rfl⟩
  obtain ⟨W0, hW0⟩ : ∃ W0 : World, W1.alloc (.cells #[.int .i64 x, .int .i64 y] 56) = W0 := ⟨_, rfl⟩
  have hb01 : Below w.heap.size w W1 := by rw [← hW1]; exact (Below.refl _ _).alloc (Nat.le_refl _) _
  have hz1 : W1.heap.size = w.heap.size + 1 := by rw [← hW1]; simp
  have hb10 : Below W1.heap.size W1 W0 := by rw [← hW0]; exact (Below.refl _ _).alloc (Nat.le_refl _) _
  have hz0 : W0.heap.size = W1.heap.size + 1 := by rw [← hW0]; simp
  have hb0 : Below w.heap.size w W0 := hb01.trans (hb10.mono (by omega))
  obtain ⟨bs, hbs⟩ : ∃ bs, w.heap.size = bs := ⟨_, rfl⟩
  have hbp : W1.heap.size = bs + 1 := by omega
  have HC0 : Hid (W0.cell? ⟨bs, 0, none⟩ = some (.slice A n c)) := hide (by rw [hb10.cell (p := ⟨bs, 0, none⟩) (by show bs < _; omega), ← hW1, ← hbs]; exact new_cell _ _ _ 0)
  have HP0 : Hid (W0.cell? ⟨bs + 1, 0, none⟩ = some (.int .i64 x)) := hide (by rw [← hW0, ← hbp]; exact new_cell _ _ _ 0)
  have HP1 : Hid (W0.cell? ⟨bs + 1, 1, none⟩ = some (.int .i64 y)) := hide (by rw [← hW0, ← hbp]; exact new_cell _ _ _ 1)
  have HW0 := hide hW0
  have HW1 := hide hW1
  have HR0 := hide (h.below hb0 hhi)
  have hh0 : hi ≤ W0.heap.size := by omega
  have hbs' : bs < W0.heap.size := by omega
  have hbp' : bs + 1 < W0.heap.size := by omega
  clear h hW0 hW1
  cases e1 : siteB l
  case false =>
    have E : Hid (cvL l x y = [] ∧ cvC l x y = 1) := hide (by simp [cvL, cvC, e1])
    go_enter Try.func45, Try.ntmps45
    skip
    go_wp2_with fail
    rw [HW1.out]
    rw [HW0.out]
    try rw [hbs]
    refine (implValidSite_any A n c lo hi own l hn HCH.out HNM.out _ HR0.out hh0 hnc).mono ?_
    rintro e w1 ⟨rfl, hb1⟩
    have hs1 := hb1.size
    have q0 := (hb1.cell (p := ⟨bs, 0, none⟩) hbs').trans HC0.out
    have q1 := (hb1.cell (p := ⟨bs + 1, 0, none⟩) hbp').trans HP0.out
    have q2 := (hb1.cell (p := ⟨bs + 1, 1, none⟩) hbp').trans HP1.out
    rw [e1]
    go_wp2_with fail
    go_ret2
    exact ⟨_, retc E.out.2, by rw [E.out.1]; exact Own.of_owns (World.ownsRow_nil _ _ _ _), hb0.trans (hb1.mono (by omega))⟩
  cases e2 : plB x y
  case false =>
    have E : Hid (cvL l x y = [] ∧ cvC l x y = 1) := hide (by simp [cvL, cvC, e2])
    go_enter Try.func45, Try.ntmps45
    skip
    go_wp2_with fail
    rw [HW1.out]
    rw [HW0.out]
    try rw [hbs]
    refine (implValidSite_any A n c lo hi own l hn HCH.out HNM.out _ HR0.out hh0 hnc).mono ?_
    rintro e w1 ⟨rfl, hb1⟩
    have hs1 := hb1.size
    have q0 := (hb1.cell (p := ⟨bs, 0, none⟩) hbs').trans HC0.out
    have q1 := (hb1.cell (p := ⟨bs + 1, 0, none⟩) hbp').trans HP0.out
    have q2 := (hb1.cell (p := ⟨bs + 1, 1, none⟩) hbp').trans HP1.out
    rw [e1]
    go_wp2_with fail
    refine (implValidPlace_is e2).mono ?_
    rintro e w2 ⟨rfl, hb2⟩
    have hb2 : Below W0.heap.size W0 w2 := hb1.trans (hb2.mono hs1)
    have hs2 := hb2.size
    clear q0 q1 q2
    have q0 := (hb2.cell (p := ⟨bs, 0, none⟩) hbs').trans HC0.out
    have q1 := (hb2.cell (p := ⟨bs + 1, 0, none⟩) hbp').trans HP0.out
    have q2 := (hb2.cell (p := ⟨bs + 1, 1, none⟩) hbp').trans HP1.out
    go_wp2_with fail
    go_ret2
    exact ⟨_, retc E.out.2, by rw [E.out.1]; exact Own.of_owns (World.ownsRow_nil _ _ _ _), hb0.trans (hb2.mono (by omega))⟩
  have E : Hid (cvL l x y = flt (cvP l x y) n ∧ cvC l x y = 0) := hide (by unfold cvL cvC; rw [if_pos ⟨e1, e2⟩, if_pos ⟨e1, e2⟩, h']; exact ⟨rfl, rfl⟩)
  have HS1 := hide e1
  have HPL := hide e2
  clear h'
  go_enter Try.func45, Try.ntmps45
  skip
  go_wp2_with fail
  rw [HW1.out]
  rw [HW0.out]
  try rw [hbs]
  refine (implValidSite_any A n c lo hi own l hn HCH.out HNM.out _ HR0.out hh0 hnc).mono ?_
  rintro e w1 ⟨rfl, hb1⟩
  have hs1 := hb1.size
  have q0 := (hb1.cell (p := ⟨bs, 0, none⟩) hbs').trans HC0.out
  have q1 := (hb1.cell (p := ⟨bs + 1, 0, none⟩) hbp').trans HP0.out
  have q2 := (hb1.cell (p := ⟨bs + 1, 1, none⟩) hbp').trans HP1.out
  rw [e1]
  go_wp2_with fail
  refine (implValidPlace_is e2).mono ?_
  rintro e w2 ⟨rfl, hb2⟩
  have hb2 : Below W0.heap.size W0 w2 := hb1.trans (hb2.mono hs1)
  have hs2 := hb2.size
  clear q0 q1 q2
  have q0 := (hb2.cell (p := ⟨bs, 0, none⟩) hbs').trans HC0.out
  have q1 := (hb2.cell (p := ⟨bs + 1, 0, none⟩) hbp').trans HP0.out
  have q2 := (hb2.cell (p := ⟨bs + 1, 1, none⟩) hbp').trans HP1.out
  go_wp2_with fail
  have Q1 := hide q1
  have Q2 := hide q2
  clear q0 q1 q2
  refine (thatC_any A n c lo hi own l hn HNM.out HS1.out _ (HR0.out.below hb2 hh0) (by omega) x y HPL.out (bs + 1) (by omega) Q1.out Q2.out).mono ?_
  rintro e w3 ⟨v, rfl, hown, hb3⟩
  have HO := hide hown
  clear hown
  go_wp2_with fail
  go_ret2
  exact ⟨_, retc E.out.2, by rw [E.out.1]; exact HO.out.mono (by omega) (Nat.le_refl _), hb0.trans ((hb2.trans (hb3.mono hs2)).mono (by omega))⟩

end Go.Proofs.Ytmpccakgpahpoaa
