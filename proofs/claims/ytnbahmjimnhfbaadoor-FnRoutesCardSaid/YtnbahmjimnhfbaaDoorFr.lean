/-
  FindRoute: the reference's and the program's. No condition but those that each theorem names.
-/
import Derived.Test.YtnbahmjimnhfbaaDoorRl
import Derived.Test.YtnbahmjimnhfbaaDoorBfs2
namespace Go.Proofs.YtnbahmjimnhfbaaDoor
open Go.RowKit
set_option linter.unusedVariables false

/-- The first states of the route. -/
def rtS (T : List (List Bool)) (D : List (List Int)) (q : Int × Int) (k : Nat) : List (Int × Int) := (List.range k).map fun j => rtAt T D q j
theorem rtS_to (T : List (List Bool)) (D : List (List Int)) (q : Int × Int) (k : Nat) : rtTo T D q k = (rtS T D q k).map pr2 := by
  unfold rtTo rtS; rw [List.map_map]; rfl
theorem rtS_len (T : List (List Bool)) (D : List (List Int)) (q : Int × Int) (k : Nat) : (rtS T D q k).length = k := by simp [rtS]
theorem rtS_at (T : List (List Bool)) (D : List (List Int)) (q : Int × Int) (k j : Nat) (h : j < (rtS T D q k).length) : (rtS T D q k)[j] = rtAt T D q j := by simp [rtS]
/-- The first neighbour with the length looked for is the route's next state. -/
theorem rt_find (T : List (List Bool)) {p q : Int × Int} (hp : stOk p) (hq : stOk q) (k : Nat) (hk : (k : Int) < dget (lens T p) q.1 q.2) {r : Int × Int} (hr : rtAt T (lens T p) q k = r) {j : Nat} {s : Int × Int} (hs : (nxt T r.1 r.2)[j]? = some s)
    (hall : ∀ i u, i < j → (nxt T r.1 r.2)[i]? = some u → dget (lens T p) u.1 u.2 ≠ dget (lens T p) q.1 q.2 - 1 - (k : Nat)) (he : dget (lens T p) s.1 s.2 = dget (lens T p) q.1 q.2 - 1 - (k : Nat)) : s = rtAt T (lens T p) q (k + 1) := by
  subst hr
  obtain ⟨i, hi, e1, e2, e3⟩ := rt_next T hp hq k hk
  obtain ⟨hj, rfl⟩ := List.getElem?_eq_some_iff.1 hs
  rcases Nat.lt_trichotomy i j with h | h | h
  · exact absurd (by rw [e1]; exact e2) (hall i _ h (List.getElem?_eq_getElem hi))
  · subst h; exact e1
  · exact absurd he (e3 j h)
theorem rt_some (T : List (List Bool)) {p q : Int × Int} (hp : stOk p) (hq : stOk q) (k : Nat) (hk : (k : Int) < dget (lens T p) q.1 q.2) {r : Int × Int} (hr : rtAt T (lens T p) q k = r) {j : Nat} (hj : (nxt T r.1 r.2).length ≤ j)
    (hall : ∀ i u, i < j → (nxt T r.1 r.2)[i]? = some u → dget (lens T p) u.1 u.2 ≠ dget (lens T p) q.1 q.2 - 1 - (k : Nat)) : False := by
  subst hr
  obtain ⟨i, hi, e1, e2, e3⟩ := rt_next T hp hq k hk
  exact hall i _ (by omega) (List.getElem?_eq_getElem hi) (by rw [e1]; exact e2)
section
variable {w w' : World} {lo hi n : Nat} {rs : List (List Value)} {us : List Value} {E T : TypeId} {v : Value}
theorem ss_snoc4 {wr w1 : World} {v' u : Value} {r : List Value} {c0 : Array Value} {mid : Nat} (hne : T ≠ E) (ho : Own wr lo wr.heap.size T 1 v n us) (hro : Rows wr lo mid E us rs) (hnew : Own wr mid wr.heap.size E 1 u r.length r) (hlo : lo ≤ mid) (hmid : mid ≤ wr.heap.size)
    (hg : (wr.alloc (.cells c0 T)).grownBy w1 v.ownBlock) (ho1 : w1.ownsRow lo T 1 v' (n + 1) (us ++ [u])) :
    OwnSS w1 lo w1.heap.size T E v' (n + 1) (rs ++ [r]) ∧ Own w1 lo w1.heap.size E 1 u r.length r := by
  refine ⟨ss_snoc3 hne ho hro hnew hlo hmid hg ho1, ?_⟩
  have hsz := hg.size
  simp at hsz
  refine (hnew.of_block fun g hg' => ?_).mono hlo (by omega)
  have hb : Below wr.heap.size wr (wr.alloc (.cells c0 T)) := (Below.refl _ _).alloc (Nat.le_refl _) _
  have hlt := (hnew.lt g hg').2.2
  have hnn := own_ne hnew.1 ho.1 (fun e => hne e.symm) g hg'
  exact (hg.block g (by simp; omega) (fun e => hnn e.symm)).trans (hb.block g hlt)
/-- A route of one state. -/
theorem ss_start (w : World) (lo : Nat) (x y : Int) (hne : T ≠ E) (hlo : lo ≤ w.heap.size) :
    OwnSS ((w.alloc (.cells #[.int .i64 x, .int .i64 y] E)).alloc (.cells #[.slice (some ⟨w.heap.size, 0, none⟩) 2 2] T)) lo (w.heap.size + 2) T E (.slice (some ⟨w.heap.size + 1, 0, none⟩) 1 1) 1 (rrInt64 [[x, y]]) ∧
    Own ((w.alloc (.cells #[.int .i64 x, .int .i64 y] E)).alloc (.cells #[.slice (some ⟨w.heap.size, 0, none⟩) 2 2] T)) lo (w.heap.size + 2) E 1 (.slice (some ⟨w.heap.size, 0, none⟩) 2 2) 2 (rInt64 [x, y]) := by
  have h2 := (own_lit2 w x y E).below ((Below.refl _ _).alloc (Nat.le_refl _) (.cells #[.slice (some ⟨w.heap.size, 0, none⟩) 2 2] T)) (by simp)
  have h1 := own_of_block (w := (w.alloc (.cells #[.int .i64 x, .int .i64 y] E)).alloc (.cells #[.slice (some ⟨w.heap.size, 0, none⟩) 2 2] T)) (lo := lo) (hi := w.heap.size + 2) (r := [.slice (some ⟨w.heap.size, 0, none⟩) 2 2]) (E := T) (heap_alloc_new _ _) (by simp; omega) (by simp) (by simp [maxLen])
  refine ⟨⟨[.slice (some ⟨w.heap.size, 0, none⟩) 2 2], by simpa using h1, ?_⟩, h2.mono hlo (by simp)⟩
  exact Rows.snoc (us := []) (rs := []) (Rows.nil _ lo lo _) (r := rInt64 [x, y]) (h2.mono (Nat.le_refl _) (by simp)) hlo hlo (by omega)
end
/-- What FindRoute answers. -/
def frN (T : List (List Bool)) (l l' : List Int) : Int := dget (lens T (l'.getD 0 0, l'.getD 1 0)) (l.getD 0 0) (l.getD 1 0)
def frL (T : List (List Bool)) (l l' : List Int) : List (List Int) := if codeL T [l, l'] = 0 then (if frN T l l' < 0 then [] else rtTo T (lens T (l'.getD 0 0, l'.getD 1 0)) (l.getD 0 0, l.getD 1 0) ((frN T l l').toNat + 1)) else []
def frC (T : List (List Bool)) (l l' : List Int) : Int := if codeL T [l, l'] = 0 then (if frN T l l' < 0 then 3 else 0) else codeL T [l, l']
theorem frN_bd {T : List (List Bool)} {l l' : List Int} (h : codeL T [l, l'] = 0) : -1 ≤ frN T l l' ∧ frN T l l' < 576 := by
  obtain ⟨_, x, y, rfl, a, b, c, d, z, u, rfl, a', b', c', d'⟩ := codeL_two h
  exact lens_bd T (p := (z, u)) ⟨⟨a', b'⟩, c', d'⟩ ⟨a, b⟩ ⟨c, d⟩
theorem frL_len (T : List (List Bool)) (l l' : List Int) : (frL T l l').length ≤ 576 := by
  unfold frL; split
  · rename_i h; have := frN_bd h
    split
    · simp
    · rw [rtTo_len]; omega
  · simp
theorem frL_row {T : List (List Bool)} {l l' : List Int} {r : List Int} (h : r ∈ frL T l l') : r.length = 2 := by
  unfold frL at h; split at h
  · split at h
    · cases h
    · unfold rtTo at h
      obtain ⟨_, _, rfl⟩ := List.mem_map.1 h; rfl
  · cases h
theorem retc {v : Value} {a b : Int} (h : b = a) : Ending.returned (.tuple #[v, .int .i64 a]) = .returned (.tuple #[v, .int .i64 b]) := by rw [h]

set_option maxRecDepth 100000 in
set_option maxHeartbeats 8000000 in
theorem implFindRoute_any (A A1 A2 : Option Addr) (n c lo hi n1 c1 l1 h1 n2 c2 l2 h2 : Nat) (T : List (List Bool)) (l l' : List Int) (hm : n ≤ maxLen) (hl : l.length = n1) (hm1 : n1 ≤ maxLen) (hl' : l'.length = n2) (hm2 : n2 ≤ maxLen) (w : World) (h : RdSS w lo hi A n (rrBool T)) (hhi : hi ≤ w.heap.size) (hr : Rd w l1 h1 1 A1 n1 (rInt64 l)) (hh1 : h1 ≤ w.heap.size) (hr' : Rd w l2 h2 1 A2 n2 (rInt64 l')) (hh2 : h2 ≤ w.heap.size) :
    Calls Tryd.prog 8 #[.slice A n c, .slice A1 n1 c1, .slice A2 n2 c2] w fun e w' => ∃ v, e = .returned (.tuple #[v, .int .i64 (frC T l l')]) ∧ OwnSS w' w.heap.size w'.heap.size 27 2 v (frL T l l').length (rrInt64 (frL T l l')) ∧ Below w.heap.size w w' := by
  obtain ⟨i0, hi0, hc0, hc1, hc2⟩ := info_parts infoSInt64
  have I := hide (And.intro hi0 (And.intro hc0 (And.intro hc1 hc2)))
  clear hi0 hc0 hc1 hc2
  have H2 := hide h
  have HR := hide hr
  have HL := hide hl
  have HR2 := hide hr'
  have HL2 := hide hl'
  clear h hr hl hr' hl'
  obtain ⟨cc, hcc⟩ : ∃ cc, codeL T [l, l'] = cc := ⟨_, rfl⟩
  have HC := hide hcc
  clear hcc
  by_cases hz : cc = 0
  · subst hz
    go_enter Tryd.func8, Tryd.ntmps8
    go_wp2_with fail
    go_step3
    go_wp2_with fail
    have hba : Below w.heap.size w (w.alloc (.cells #[.slice A1 n1 c1, .slice A2 n2 c2] 27)) := (Below.refl _ _).alloc (Nat.le_refl _) _
    have hsa := hba.size
    refine (stateCode_any A _ n c lo hi 2 2 0 (w.heap.size + 1) T [l, l'] hm (by omega) _ (H2.out.below hba hhi) (by omega) (rdss_lit2 _ HL.out hm1 (HR.out.mono (Nat.zero_le _) (Nat.le_refl _)) hh1 HL2.out hm2 (HR2.out.mono (Nat.zero_le _) (Nat.le_refl _)) hh2) (by simp)).mono ?_
    rintro e w1 ⟨rfl, hb1⟩
    rw [HC.out]
    have hB1 := hba.trans (hb1.mono hsa)
    have hs1 := hB1.size
    obtain ⟨e0, x, y, rfl, hx0, hx1, hy0, hy1, z, u, rfl, hz0, hz1, hu0, hu1⟩ := codeL_two HC.out
    have HO := hide e0
    obtain rfl : n1 = 2 := HL.out.symm
    obtain rfl : n2 = 2 := HL2.out.symm
    clear e0
    have HS1 := hide hs1
    have HPZ : Hid (stOk (z, u)) := hide ⟨⟨hz0, hz1⟩, hu0, hu1⟩
    have HPX : Hid (stOk (x, y)) := hide ⟨⟨hx0, hx1⟩, hy0, hy1⟩
    have HLL := hide (lens_ok T HPZ.out)
    have hN : frN T [x, y] [z, u] = dget (lens T (z, u)) x y := rfl
    have HV : Hid (frC T [x, y] [z, u] = (if dget (lens T (z, u)) x y < 0 then 3 else 0) ∧ frL T [x, y] [z, u] = if dget (lens T (z, u)) x y < 0 then [] else rtTo T (lens T (z, u)) (x, y) ((dget (lens T (z, u)) x y).toNat + 1)) := hide (by unfold frC frL; rw [if_pos HC.out, if_pos HC.out]; exact ⟨rfl, rfl⟩)
    clear hN
    obtain ⟨hgb1, hgb2⟩ := lens_bd T HPZ.out (c := x) (d := y) ⟨hx0, hx1⟩ ⟨hy0, hy1⟩
    obtain ⟨kx, rfl⟩ : ∃ k : Nat, x = k := ⟨x.toNat, by omega⟩
    obtain ⟨ky, rfl⟩ : ∃ k : Nat, y = k := ⟨y.toNat, by omega⟩
    obtain ⟨bs, os, rfl, _, hbs, s0, s1⟩ := st_cells HR.out
    have HNE : Hid ((27 : TypeId) ≠ 2) := hide (by decide)
    have HT := hide (show w.cell? ⟨bs, os, none⟩ = some (.int .i64 (kx : Int)) ∧ w.cell? ⟨bs, os + 1, none⟩ = some (.int .i64 (ky : Int)) from ⟨s0, s1⟩)
    clear s0 s1
    go_wp2_with fail
    refine (lengths_any A A2 n c c2 lo hi l2 h2 T HO.out z u hz0 hz1 hu0 hu1 _ (H2.out.below hB1 hhi) (by omega) (HR2.out.below hB1 hh2) (by omega)).mono ?_
    rintro e w2 ⟨v, rfl, hw, hb2⟩
    have HW := hide hw
    clear hw
    have hs2 := hb2.size
    have hB2 := hB1.trans (hb2.mono HS1.out)
    have HB2 := hide hB2
    have hsw := hB2.size
    obtain ⟨us, hus, _⟩ := HW.out
    obtain ⟨gv, cv, rfl⟩ := Joins.ownsRow_form hus.1 (by omega)
    clear hus
    obtain ⟨D, hD⟩ : ∃ D, lens T (z, u) = D := ⟨_, rfl⟩
    have HD := hide hD
    rw [hD] at HW HLL HV hgb1 hgb2
    clear hD
    obtain ⟨_, _, gr, cr, _, _, kr, kq, _, _⟩ := dcell HW.out HNE.out (Nat.le_refl _) HLL.out kx ky (by omega) (by omega)
    have t0 := (hB2.cell (p := ⟨bs, os, none⟩) (by show bs < _; omega)).trans HT.out.1
    have t1 := (hB2.cell (p := ⟨bs, os + 1, none⟩) (by show bs < _; omega)).trans HT.out.2
    have b1 : (kx : Int) < 24 := by omega
    have b2 : (ky : Int) < 24 := by omega
    have b3 : (0 : Int) ≤ kx := by omega
    have b4 : (0 : Int) ≤ ky := by omega
    obtain ⟨d, hd⟩ : ∃ d, dget D (kx : Int) (ky : Int) = d := ⟨_, rfl⟩
    have HDD := hide hd
    rw [hd] at kq HV hgb1 hgb2
    clear hd
    go_wp2_with fail
    go_quiet (fail)
    generalize hq2 : World.drewN w2 _ = wq
    have hbq : Below w2.heap.size w2 wq := by rw [← hq2]; exact Joins.below_draws _ _ _
    clear hq2
    have hsq := hbq.size
    have HWq := hide (HW.out.below hbq (Nat.le_refl _))
    have HBq := hide (hB2.trans (hbq.mono hsw))
    have HTq := hide (And.intro ((hbq.cell (p := ⟨bs, os, none⟩) (by show bs < _; omega)).trans t0) ((hbq.cell (p := ⟨bs, os + 1, none⟩) (by show bs < _; omega)).trans t1))
    clear t0 t1 kr kq hB2
    by_cases hneg : d < 0
    · rw [if_pos hneg, if_pos hneg] at HV
      have hg1 : decide (d < 0) = true := by simpa using hneg
      go_wp2_with fail
    -- A
      try rw [Exit.noGoto_ret]
      go_ret2
      refine ⟨_, retc HV.out.1, ?_, HBq.out⟩
      rw [HV.out.2]
      exact OwnSS.nil_ _ _ _ _ _
    · rw [if_neg hneg, if_neg hneg] at HV
      have hg1 : decide (d < 0) = false := by simp; omega
      obtain ⟨N, rfl⟩ : ∃ N : Nat, d = N := ⟨d.toNat, by omega⟩
      rw [Int.toNat_natCast] at HV
      have hN : N < 576 := by omega
      have t0 := HTq.out.1
      have t1 := HTq.out.2
      go_wp2_with fail
    -- B
      go_still_tail 6, (by kernel_rfl)
      generalize hq3 : ({ heap := wq.heap, tape := wq.tape, drawn := wq.drawn + 1, os := wq.os, output := wq.output } : World) = wd
      have hbd : Below w2.heap.size w2 wd := by rw [← hq3]; exact hbq.trans (below_drew _ _)
      clear hq3 t0 t1
      go_wp2_with fail
      go_step3
      go_wp2_with fail
      go_loopw [10, 11] (fun lv v wr => ∃ k : Nat, k ≤ N ∧ lv = .int .i64 ((N : Int) - k) ∧ Hid (OwnSS wr w2.heap.size wr.heap.size 27 2 v (k + 1) (rrInt64 (rtTo T D ((kx : Int), (ky : Int)) (k + 1)))) ∧ Below w2.heap.size w2 wr) (fun lv _ _ => (intOf lv).toNat)
      case atStart =>
        have hsd := hbd.size
        obtain ⟨hA, hO⟩ := ss_start (T := 27) (E := 2) wd w2.heap.size kx ky HNE.out hsd
        have hbb : Below w2.heap.size w2 ((wd.alloc (.cells #[.int .i64 (kx : Int), .int .i64 (ky : Int)] 2)).alloc (.cells #[.slice (some ⟨wd.heap.size, 0, none⟩) 2 2] 27)) := (hbd.alloc hsd _).alloc (by simp; omega) _
        exact ⟨0, by omega, by simp, hide (hA.mono (Nat.le_refl _) (by simp)), hbb⟩
      case round =>
        clear hbd hbq hsq
        obtain ⟨k, hk, rfl, HOUT, hbr⟩ := hrel
        have hsz := hbr.size
        by_cases hlt : k < N
        · have HST := hide (rt_ok T HPZ.out HPX.out k (by rw [HD.out, HDD.out]; omega)).1
          rw [HD.out] at HST
          obtain ⟨a, bq, hab, ha, hb⟩ := st_nat HST.out
          have HAB := hide hab
          have x1 : (a : Int) < 24 := by omega
          have x2 : (bq : Int) < 24 := by omega
          have HFIND : Hid (∀ (j : Nat) (s : Int × Int), (nxt T (a : Int) (bq : Int))[j]? = some s → (∀ i u, i < j → (nxt T (a : Int) (bq : Int))[i]? = some u → dget D u.1 u.2 ≠ (N : Int) - 1 - (k : Nat)) → dget D s.1 s.2 = (N : Int) - 1 - (k : Nat) → s = rtAt T D ((kx : Int), (ky : Int)) (k + 1)) := hide (fun j s q1 q2 q3 => by have := rt_find T HPZ.out HPX.out k (by rw [HD.out, HDD.out]; omega) (r := ((a : Int), (bq : Int))) (by rw [HD.out]; exact HAB.out) q1; rw [HD.out, HDD.out] at this; exact this q2 q3)
          have HSOME : Hid (∀ (j : Nat), (nxt T (a : Int) (bq : Int)).length ≤ j → (∀ i u, i < j → (nxt T (a : Int) (bq : Int))[i]? = some u → dget D u.1 u.2 ≠ (N : Int) - 1 - (k : Nat)) → False) := hide (fun j q1 q2 => by have := rt_some T HPZ.out HPX.out k (by rw [HD.out, HDD.out]; omega) (r := ((a : Int), (bq : Int))) (by rw [HD.out]; exact HAB.out) q1; rw [HD.out, HDD.out] at this; exact this q2)
          have HOUT2 := HOUT
          rw [rtS_to] at HOUT2
          obtain ⟨gl0, cl0, ga, ca, rfl, _, _, kl0, _, _, a0, a1, hrow⟩ := ss_at2 HOUT2.out (j := k) (by rw [rtS_len]; omega)
          rw [rtS_at, hab] at a0 a1 hrow
          obtain ⟨_, _, hev, _, _, hra⟩ := hrow.rd
          injection hev with e1 e2 e3
          subst e1
          subst e3
          clear e2 hrow hab HOUT2
          have HRA := hide hra
          clear hra
          go_wp2_with fail
    -- C
          refine (stepsFrom_any A n c lo hi _ _ w2.heap.size wr.heap.size T HO.out (a : Int) (bq : Int) (by omega) (by omega) (by omega) (by omega) _ (H2.out.below (HB2.out.trans (hbr.mono hsw)) hhi) (by omega) HRA.out (Nat.le_refl _)).mono ?_
          rintro e w3 ⟨vl, rfl, hw, hb3'⟩
          have hb3 : Below wr.heap.size wr w3 := hb3'
          clear hb3'
          have hs3 := hb3.size
          have hw : OwnSS w3 wr.heap.size w3.heap.size 27 2 vl _ _ := hw
          obtain ⟨nl, hnl⟩ : ∃ nl, (nxt T (a : Int) (bq : Int)).length = nl := ⟨_, rfl⟩
          rw [hnl] at hw
          have hnl2 := nxt_len T (a : Int) (bq : Int)
          rw [hnl] at hnl2
          have HNL := hide hnl
          clear hnl
          obtain ⟨Al, cl, rfl, hcl1, hcl2, _⟩ := hw.rd
          have HL := hide hw
          clear hw
          unfold maxLen at hcl2
          have hbt := hbr.trans (hb3.mono hsz)
          have HW3 := hide (HW.out.below hbt (Nat.le_refl _))
          have HOUT3 := hide (HOUT.out.below hb3 (Nat.le_refl _))
          clear HOUT
          clear a0 a1 kl0
          go_wp2_with fail
          obtain ⟨wo, rfl⟩ : ∃ wo : World, wo = wr := ⟨_, rfl⟩
          go_loopw [10, 11, 57] (fun lv' v' i wr => ∃ j : Nat, j ≤ nl ∧ i = .int .i64 j ∧ lv' = .int .i64 ((N : Int) - k) ∧ v' = .slice (some ⟨gl0, 0, none⟩) (k + 1) cl0 ∧ Hid (∀ i u, i < j → (nxt T (a : Int) (bq : Int))[i]? = some u → dget D u.1 u.2 ≠ (N : Int) - 1 - (k : Nat)) ∧ Below w3.heap.size w3 wr) (fun _ _ i _ => nl - (intOf i).toNat)
          case atStart => exact ⟨0, by omega, rfl, rfl, rfl, hide (by intro i u hi; omega), Below.refl _ _⟩
          case round =>
            obtain ⟨j, hj, rfl, rfl, rfl, HALL, hbv⟩ := hrel
            have hsv := hbv.size
            by_cases hlj : j < nl
            · have hjn : j < (nxt T (a : Int) (bq : Int)).length := by rw [HNL.out]; exact hlj
              obtain ⟨ec, ed, hee, hec, hed⟩ := st_nat (nxt_ok (List.getElem_mem hjn)).1
              have HEE := hide (show (nxt T (a : Int) (bq : Int))[j]? = some ((ec : Int), (ed : Int)) by rw [List.getElem?_eq_getElem hjn, hee])
              obtain ⟨gl, cl', ge, ce, hv, l1', l2', kl, l3', l4', e0, e1, hown⟩ := ss_at2 (HL.out.below hbv (Nat.le_refl _)) hjn
              rw [hee] at e0 e1 hown
              injection hv with hv1 hv2 hv3
              subst hv1
              subst hv3
              clear hv2 hee
              have HOWN := hide hown
              clear hown
              have HKL := hide kl
              obtain ⟨_, _, g3, c3, _, _, kc3, kx3, _, _⟩ := dcell (HW3.out.below hbv (by omega)) HNE.out (by omega) HLL.out ec ed hec hed
              have y1 : (ec : Int) < 24 := by omega
              have y2 : (ed : Int) < 24 := by omega
              obtain ⟨dd, hdd⟩ : ∃ dd, dget D (ec : Int) (ed : Int) = dd := ⟨_, rfl⟩
              have HDE := hide hdd
              rw [hdd] at kx3
              clear hdd
              go_wp2_with fail
              go_quiet (fail)
              generalize hq5 : World.drewN wr _ = wz
              have hbz : Below wr.heap.size wr wz := by rw [← hq5]; exact Joins.below_draws _ _ _
              clear hq5 kl e0 e1 kc3 kx3
              have hsz2 := hbz.size
              have hbz3 : Below w3.heap.size w3 wz := hbv.trans (hbz.mono hsv)
              by_cases heq : dd = (N : Int) - k - 1
              · have HS := hide (HFIND.out _ _ HEE.out HALL.out (by show dget D (ec : Int) (ed : Int) = _; rw [HDE.out]; omega))
                have hg2 : (dd == (N : Int) - k - 1) = true := by simpa using heq
                rw [hg2]
                clear heq hg2
                have kl := (hbz.cell (p := ⟨gl, j, none⟩) (by show gl < _; omega)).trans HKL.out
                have HWN := hide (HOWN.out.below hbz (by omega))
                obtain ⟨us, ho, hro⟩ := HOUT3.out.below hbz3 hs3
                have hbw := hbt.trans (hbz3.mono (by omega))
                have hsw2 := hbw.size
                have HOO := hide (ho.mono (Nat.le_refl _) (show wo.heap.size ≤ wz.heap.size by omega))
                have HRO := hide hro
                clear ho hro
                go_wp2_with (at_builtin; refine wpList_append_own _ rfl (.tmp 75) (.tmp 77) 30 rfl w2.heap.size 27 i0 (.slice none 0 0) 1 24 Tryd.underlying30 I.out.1 I.out.2.1 I.out.2.2.1 I.out.2.2.2 rfl (by decide) _ (k + 1) us rfl (HOO.out.1.alloc _) ⟨wz.heap.size, 0, none⟩ 1 1 [.slice (some ⟨ge, 0, none⟩) 2 ce] rfl rfl (news_at2 _ _ _ _ rfl) (by simp [Value.oneCell']) (by unfold maxLen; omega) (by omega) (by simp; omega) ?_; intro v' wn hown' hgrow _)
    -- D
                have HF := hide (ss_snoc4 (r := rInt64 [(ec : Int), (ed : Int)]) HNE.out HOO.out HRO.out (HWN.out.mono (Nat.le_refl _) (show w3.heap.size ≤ wz.heap.size by omega)) hsz (show wo.heap.size ≤ wz.heap.size by omega) hgrow hown')
                have HBN := hide ((hbw.alloc (by omega) _).grown hgrow (by simp; omega) (fun g hg => (HOO.out.lt g hg).1))
                clear hown' hgrow
                try go_wp2_with fail
                go_roundw
                case rel =>
                  refine ⟨k + 1, by omega, vint (by omega), ?_, HBN.out⟩
                  · rw [rtTo_succ, ← HS.out, rr_snoc]; exact hide HF.out.1
                case measure => simp [intOf]; omega
              · have hg2 : (dd == (N : Int) - k - 1) = false := by simpa using heq
                rw [hg2]
                clear hg2
                go_wp2_with fail
                go_roundw
                case rel => exact ⟨j + 1, by omega, by go_num, rfl, rfl, hide (fun i u hi hu => by rcases Nat.lt_succ_iff_lt_or_eq.1 hi with h | h; exact HALL.out i u h hu; subst h; rw [HEE.out] at hu; obtain rfl := Option.some.inj hu; show dget D (ec : Int) (ed : Int) ≠ _; rw [HDE.out]; omega), hbz3⟩
                case measure => simp [intOf]; omega
            · exact absurd (HSOME.out j (by rw [HNL.out]; omega) HALL.out) id
        · obtain rfl : k = N := by omega
          have HF := hide (HOUT.out.mono hsw (Nat.le_refl _))
          have HB3 := hide (HB2.out.trans (hbr.mono hsw))
          go_wp2_with fail
          try rw [Exit.noGoto_ret]
          go_ret2
          refine ⟨_, retc HV.out.1, ?_, HB3.out⟩
          rw [HV.out.2]
          exact HF.out.cast (by rw [rtTo_len])
  · have hz2 : (cc == 0) = false := by simpa using hz
    have hz3 : (cc != 0) = true := by simpa using hz
    have HV : Hid (frC T l l' = cc ∧ frL T l l' = []) := hide (by unfold frC frL; rw [HC.out, if_neg hz, if_neg hz]; exact ⟨rfl, rfl⟩)
    go_enter Tryd.func8, Tryd.ntmps8
    go_wp2_with fail
    go_step3
    go_wp2_with fail
    have hba : Below w.heap.size w (w.alloc (.cells #[.slice A1 n1 c1, .slice A2 n2 c2] 27)) := (Below.refl _ _).alloc (Nat.le_refl _) _
    have hsa := hba.size
    refine (stateCode_any A _ n c lo hi 2 2 0 (w.heap.size + 1) T [l, l'] hm (by omega) _ (H2.out.below hba hhi) (by omega) (rdss_lit2 _ HL.out hm1 (HR.out.mono (Nat.zero_le _) (Nat.le_refl _)) hh1 HL2.out hm2 (HR2.out.mono (Nat.zero_le _) (Nat.le_refl _)) hh2) (by simp)).mono ?_
    rintro e w1 ⟨rfl, hb1⟩
    rw [HC.out]
    have hB1 := hba.trans (hb1.mono hsa)
    have hs1 := hB1.size
    go_wp2_with fail
    try rw [Exit.noGoto_ret]
    go_ret2
    refine ⟨_, retc HV.out.1, ?_, hB1⟩
    rw [HV.out.2]
    exact OwnSS.nil_ _ _ _ _ _

end Go.Proofs.YtnbahmjimnhfbaaDoor
