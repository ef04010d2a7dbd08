/-
  THE LOAD OF A CRANE AT A PLACE: the reference's and the program's. No condition but those that each theorem names.
-/
import Derived.Test.YtmpccakgpahpoaaLoad
import Derived.Deep.RegionHeld3
namespace Go.Proofs.Ytmpccakgpahpoaa
open Go.RowKit
set_option linter.unusedVariables false

theorem ldI_far {l : Chr} (h : chB l = true) {r : Int} (hr : 1000 < r) : ldI l r = -1 := by
  apply ldI_no
  apply fIx_no
  intro j hj
  have h2 := (chB_true h).1 j hj
  simp only [okS, List.getD, List.getElem?_eq_getElem hj, Option.getD_some, Bool.and_eq_true] at h2
  have := (inR_true h2.1).2
  omega
theorem rt_bd {n : Int} (h : n ≤ 800000000) : 0 ≤ rt n ∧ rt n ≤ 40000 := ⟨(rt_is (n := n) (by omega)).1, (rt_is (n := n) (by omega)).down (m := 40000) (by omega) (by omega)⟩
theorem below_drew {w w' : World} {k : Nat} (h : Below k w w') : Below k w (World.drew w') := h.trans (Joins.below_draws _ _ 1)

set_option maxRecDepth 100000 in
set_option maxHeartbeats 2000000 in
theorem l02Square_is {x y x' y' s : Int} (h : plB x y = true) (h' : plB x' y' = true) (hs : sqD x y x' y' = s) {w : World} :
    Calls Try.prog 101 #[.agg #[.int .i64 x, .int .i64 y], .agg #[.int .i64 x', .int .i64 y']] w fun e w' => e = .returned (.int .i64 s) ∧ Below w.heap.size w w' := by
  subst hs; exact l02Square_any x y x' y' h h' w

set_option maxRecDepth 100000 in
set_option maxHeartbeats 2000000 in
theorem l02Root_is {n r : Int} (h0 : 0 ≤ n) (hn : n ≤ 800000000) (hr : rt n = r) {w : World} :
    Calls Try.prog 100 #[.int .i64 n] w fun e w' => e = .returned (.int .i64 r) ∧ Below w.heap.size w w' := by
  subst hr; refine (l02Root_any n h0 hn w).mono ?_; rintro e w' ⟨rfl, rfl⟩; exact ⟨rfl, Below.refl _ _⟩

set_option maxRecDepth 100000 in
set_option maxHeartbeats 2000000 in
theorem square_is {x y x' y' s : Int} (h : plB x y = true) (h' : plB x' y' = true) (hs : sqD x y x' y' = s) {w : World} :
    Calls Try.prog 93 #[.agg #[.int .i64 x, .int .i64 y], .agg #[.int .i64 x', .int .i64 y']] w fun e w' => e = .returned (.int .i64 s) ∧ Below w.heap.size w w' := by
  subst hs; exact square_any x y x' y' h h' w

set_option maxRecDepth 100000 in
set_option maxHeartbeats 2000000 in
theorem rootUp_is {n r : Int} (h0 : 0 ≤ n) (hn : n ≤ 800000000) (hr : rt n = r) {w : World} :
    Calls Try.prog 104 #[.int .i64 n] w fun e w' => e = .returned (.int .i64 r) ∧ Below w.heap.size w w' := by
  subst hr; refine (rootUp_any n h0 hn w).mono ?_; rintro e w' ⟨rfl, rfl⟩; exact ⟨rfl, Below.refl _ _⟩

set_option maxRecDepth 100000 in
set_option maxHeartbeats 2000000 in
theorem l04Load_any (b o : Nat) (cx cy x y : Int) (Ai : Option Addr) (ni ci lo hi : Nat) (ch : Chr) (hc : plB cx cy = true) (hp : plB x y = true) (hch : chB ch = true) (hni : ch.length = ni) (w : World) (hb : b < w.heap.size) (c1 : w.cell? ⟨b, o + 1, none⟩ = some (.int .i64 cx)) (c2 : w.cell? ⟨b, o + 2, none⟩ = some (.int .i64 cy)) (c6 : w.cell? ⟨b, o + 6, none⟩ = some (.slice Ai ni ci)) (h : Rd w lo hi 2 Ai ni (rChartStep ch)) (hhi : hi ≤ w.heap.size) :
    Calls Try.prog 67 #[.pointer (some ⟨b, o, none⟩), .agg #[.int .i64 x, .int .i64 y]] w fun e w' => e = .returned (.int .i64 (ldI ch (rt (sqD cx cy x y)))) ∧ Below w.heap.size w w' := by
  obtain ⟨s0, s1⟩ := sqD_bd hc hp
  obtain ⟨r0, r1⟩ := rt_bd s1
  have hlen := (chB_true hch).2.2
  rw [hni] at hlen
  have HCH := hide hch
  have HC := hide hc
  have HP := hide hp
  have HNI := hide hni
  clear hch hc hp hni
  obtain ⟨s, hs⟩ : ∃ s, sqD cx cy x y = s := ⟨_, rfl⟩
  have HSQ := hide hs
  rw [hs] at s0 s1 r0 r1 ⊢
  obtain ⟨r, hr⟩ : ∃ r, rt s = r := ⟨_, rfl⟩
  have HRT := hide hr
  rw [hr] at r0 r1 ⊢
  clear hs hr
  have HHI := hide hhi
  have HR := hide h
  clear h
  obtain ⟨W0, hW0⟩ : ∃ W0 : World, (w.alloc (.cells #[.int .i64 x, .int .i64 y] 56)) = W0 := ⟨_, rfl⟩
  have hb0 : Below w.heap.size w W0 := by rw [← hW0]; exact (Below.refl _ _).alloc (Nat.le_refl _) _
  have hz0 : W0.heap.size = w.heap.size + 1 := by rw [← hW0]; simp
  obtain ⟨bp, hbp⟩ : ∃ bp, w.heap.size = bp := ⟨_, rfl⟩
  have HSS : Hid ((World.drew W0).cell? ⟨b, o + 1, none⟩ = some (.int .i64 cx) ∧ (World.drew W0).cell? ⟨b, o + 2, none⟩ = some (.int .i64 cy) ∧ (World.drew W0).cell? ⟨bp, 0, none⟩ = some (.int .i64 x) ∧ (World.drew W0).cell? ⟨bp, 1, none⟩ = some (.int .i64 y)) := hide ⟨(hb0.cell (p := ⟨b, _, none⟩) hb).trans c1, (hb0.cell (p := ⟨b, _, none⟩) hb).trans c2, by rw [← hW0, ← hbp]; exact new_cell _ _ _ 0, by rw [← hW0, ← hbp]; exact new_cell _ _ _ 1⟩
  have HC6 := hide ((hb0.cell (p := ⟨b, _, none⟩) hb).trans c6)
  have HW0 := hide hW0
  have hb' : b < W0.heap.size := by omega
  have hbp' : bp < W0.heap.size := by omega
  clear c1 c2 c6 hW0
  go_enter Try.func67, Try.ntmps67
  go_wp2_with fail
  rw [HW0.out]
  try rw [hbp]
  go_region_held3 (fun W => W.cell? ⟨b, o + 1, none⟩ = some (.int .i64 cx) ∧ W.cell? ⟨b, o + 2, none⟩ = some (.int .i64 cy) ∧ W.cell? ⟨bp, 0, none⟩ = some (.int .i64 x) ∧ W.cell? ⟨bp, 1, none⟩ = some (.int .i64 y)) (with_reducible exact HSS.out) (first | (go_at_call 101; (with_reducible refine (l02Square_is HC.out HP.out HSQ.out).mono ?_); rintro e w2 ⟨rfl, hq2⟩; have hz2 : W0.heap.size ≤ w2.heap.size := hq2.size; have HSS : Hid (w2.cell? ⟨b, o + 1, none⟩ = some (.int .i64 cx) ∧ w2.cell? ⟨b, o + 2, none⟩ = some (.int .i64 cy) ∧ w2.cell? ⟨bp, 0, none⟩ = some (.int .i64 x) ∧ w2.cell? ⟨bp, 1, none⟩ = some (.int .i64 y)) := hide ⟨(hq2.cell (p := ⟨b, o + 1, none⟩) (by show b < W0.heap.size; omega)).trans HSS.out.1, (hq2.cell (p := ⟨b, o + 2, none⟩) (by show b < W0.heap.size; omega)).trans HSS.out.2.1, (hq2.cell (p := ⟨bp, 0, none⟩) (by show bp < W0.heap.size; omega)).trans HSS.out.2.2.1, (hq2.cell (p := ⟨bp, 1, none⟩) (by show bp < W0.heap.size; omega)).trans HSS.out.2.2.2⟩) | (go_at_call 100; (with_reducible refine (l02Root_is s0 s1 HRT.out).mono ?_); rintro e w3 ⟨rfl, hq3⟩; have hz3 := hq3.size; have HSS : Hid (w3.cell? ⟨b, o + 1, none⟩ = some (.int .i64 cx) ∧ w3.cell? ⟨b, o + 2, none⟩ = some (.int .i64 cy) ∧ w3.cell? ⟨bp, 0, none⟩ = some (.int .i64 x) ∧ w3.cell? ⟨bp, 1, none⟩ = some (.int .i64 y)) := hide ⟨(hq3.cell (p := ⟨b, o + 1, none⟩) (by show b < w2.heap.size; omega)).trans HSS.out.1, (hq3.cell (p := ⟨b, o + 2, none⟩) (by show b < w2.heap.size; omega)).trans HSS.out.2.1, (hq3.cell (p := ⟨bp, 0, none⟩) (by show bp < w2.heap.size; omega)).trans HSS.out.2.2.1, (hq3.cell (p := ⟨bp, 1, none⟩) (by show bp < w2.heap.size; omega)).trans HSS.out.2.2.2⟩))
  have h03 : Below W0.heap.size W0 w3 := ((Joins.below_draws _ _ 1 : Below W0.heap.size W0 (World.drew W0)).trans hq2).trans (hq3.mono hz2)
  have hb3 := hb0.trans (h03.mono (by omega))
  have c6 := (h03.cell (p := ⟨b, _, none⟩) hb').trans HC6.out
  have hbw : b < w3.heap.size := by omega
  by_cases hfar : r > 1000
  · have E := hide (ldI_far HCH.out hfar)
    clear c6
    go_wp2_with fail
    go_ret
    exact ⟨ret_int E.out.symm, hb3⟩
  · go_wp2_with fail
    refine (l03Load_any Ai ni ci lo hi ch r (by omega) r0 (by omega) HCH.out _ HNI.out (HR.out.below hb3 HHI.out) (by have := HHI.out; omega)).mono ?_
    rintro e w4 ⟨rfl, hq4⟩
    clear c6
    go_wp2_with fail
    go_ret
    exact ⟨rfl, hb3.trans (hq4.mono (by omega))⟩

set_option maxRecDepth 100000 in
set_option maxHeartbeats 2000000 in
theorem loadAtPlace_any (nm : ByteArray) (cx cy hh jj bb x y : Int) (Ai : Option Addr) (ni ci lo hi : Nat) (ch : Chr) (hc : plB cx cy = true) (hp : plB x y = true) (hch : chB ch = true) (hni : ch.length = ni) (w : World) (h : Rd w lo hi 2 Ai ni (rChartStep ch)) (hhi : hi ≤ w.heap.size) :
    Calls Try.prog 69 #[.agg #[.string nm, .int .i64 cx, .int .i64 cy, .int .i64 hh, .int .i64 jj, .int .i64 bb, .slice Ai ni ci], .agg #[.int .i64 x, .int .i64 y]] w fun e w' => e = .returned (.tuple #[.int .i64 (ldV (ldI ch (rt (sqD cx cy x y)))), .bool (ldK (ldI ch (rt (sqD cx cy x y))))]) ∧ Below w.heap.size w w' := by
  obtain ⟨s0, s1⟩ := sqD_bd hc hp
  obtain ⟨r0, r1⟩ := rt_bd s1
  have hlen := (chB_true hch).2.2
  rw [hni] at hlen
  have HCH := hide hch
  have HC := hide hc
  have HP := hide hp
  have HNI := hide hni
  clear hch hc hp hni
  obtain ⟨s, hs⟩ : ∃ s, sqD cx cy x y = s := ⟨_, rfl⟩
  have HSQ := hide hs
  rw [hs] at s0 s1 r0 r1 ⊢
  obtain ⟨r, hr⟩ : ∃ r, rt s = r := ⟨_, rfl⟩
  have HRT := hide hr
  rw [hr] at r0 r1 ⊢
  clear hs hr
  have HHI := hide hhi
  have HR := hide h
  clear h
  obtain ⟨W1, hW1⟩ : ∃ W1 : World, (w.alloc (.cells #[.string nm, .int .i64 cx, .int .i64 cy, .int .i64 hh, .int .i64 jj, .int .i64 bb, .slice Ai ni ci] 85)) = W1 := ⟨_, rfl⟩
  obtain ⟨W0, hW0⟩ : ∃ W0 : World, W1.alloc (.cells #[.int .i64 x, .int .i64 y] 56) = W0 := ⟨_, rfl⟩
  have hb01 : Below w.heap.size w W1 := by rw [← hW1]; exact (Below.refl _ _).alloc (Nat.le_refl _) _
  have hz1 : W1.heap.size = w.heap.size + 1 := by rw [← hW1]; simp
  have hb10 : Below W1.heap.size W1 W0 := by rw [← hW0]; exact (Below.refl _ _).alloc (Nat.le_refl _) _
  have hz0 : W0.heap.size = W1.heap.size + 1 := by rw [← hW0]; simp
  have hb0 : Below w.heap.size w W0 := hb01.trans (hb10.mono (by omega))
  obtain ⟨bc, hbc⟩ : ∃ bc, w.heap.size = bc := ⟨_, rfl⟩
  have hbp : W1.heap.size = bc + 1 := by omega
  have K : ∀ i, W0.cell? ⟨bc, i, none⟩ = (#[.string nm, .int .i64 cx, .int .i64 cy, .int .i64 hh, .int .i64 jj, .int .i64 bb, .slice Ai ni ci] : Array Value)[i]? := fun i => by rw [hb10.cell (p := ⟨bc, i, none⟩) (by show bc < _; omega), ← hW1, ← hbc]; exact new_cell _ _ _ i
  have HSS : Hid ((World.drew W0).cell? ⟨bc, 1, none⟩ = some (.int .i64 cx) ∧ (World.drew W0).cell? ⟨bc, 2, none⟩ = some (.int .i64 cy) ∧ (World.drew W0).cell? ⟨bc, 6, none⟩ = some (.slice Ai ni ci) ∧ (World.drew W0).cell? ⟨bc + 1, 0, none⟩ = some (.int .i64 x) ∧ (World.drew W0).cell? ⟨bc + 1, 1, none⟩ = some (.int .i64 y)) := hide ⟨K 1, K 2, K 6, by rw [← hW0, ← hbp]; exact new_cell _ _ _ 0, by rw [← hW0, ← hbp]; exact new_cell _ _ _ 1⟩
  have HW0 := hide hW0
  have HW1 := hide hW1
  have hbc' : bc < W0.heap.size := by omega
  have hbp' : bc + 1 < W0.heap.size := by omega
  clear K hW0 hW1
  go_enter Try.func69, Try.ntmps69
  go_wp2_with fail
  rw [HW1.out]
  rw [HW0.out]
  try rw [hbc]
  try rw [hbp]
  go_region_held3 (fun W => W.cell? ⟨bc, 1, none⟩ = some (.int .i64 cx) ∧ W.cell? ⟨bc, 2, none⟩ = some (.int .i64 cy) ∧ W.cell? ⟨bc, 6, none⟩ = some (.slice Ai ni ci) ∧ W.cell? ⟨bc + 1, 0, none⟩ = some (.int .i64 x) ∧ W.cell? ⟨bc + 1, 1, none⟩ = some (.int .i64 y)) (with_reducible exact HSS.out) (first | (go_at_call 93; (with_reducible refine (square_is HC.out HP.out HSQ.out).mono ?_); rintro e w2 ⟨rfl, hq2⟩; have hz2 : W0.heap.size ≤ w2.heap.size := hq2.size; have HSS : Hid (w2.cell? ⟨bc, 1, none⟩ = some (.int .i64 cx) ∧ w2.cell? ⟨bc, 2, none⟩ = some (.int .i64 cy) ∧ w2.cell? ⟨bc, 6, none⟩ = some (.slice Ai ni ci) ∧ w2.cell? ⟨bc + 1, 0, none⟩ = some (.int .i64 x) ∧ w2.cell? ⟨bc + 1, 1, none⟩ = some (.int .i64 y)) := hide ⟨(hq2.cell (p := ⟨bc, 1, none⟩) (by show bc < W0.heap.size; omega)).trans HSS.out.1, (hq2.cell (p := ⟨bc, 2, none⟩) (by show bc < W0.heap.size; omega)).trans HSS.out.2.1, (hq2.cell (p := ⟨bc, 6, none⟩) (by show bc < W0.heap.size; omega)).trans HSS.out.2.2.1, (hq2.cell (p := ⟨bc + 1, 0, none⟩) (by show bc + 1 < W0.heap.size; omega)).trans HSS.out.2.2.2.1, (hq2.cell (p := ⟨bc + 1, 1, none⟩) (by show bc + 1 < W0.heap.size; omega)).trans HSS.out.2.2.2.2⟩) | (go_at_call 104; (with_reducible refine (rootUp_is s0 s1 HRT.out).mono ?_); rintro e w3 ⟨rfl, hq3⟩; have hz3 := hq3.size; have HSS : Hid (w3.cell? ⟨bc, 1, none⟩ = some (.int .i64 cx) ∧ w3.cell? ⟨bc, 2, none⟩ = some (.int .i64 cy) ∧ w3.cell? ⟨bc, 6, none⟩ = some (.slice Ai ni ci) ∧ w3.cell? ⟨bc + 1, 0, none⟩ = some (.int .i64 x) ∧ w3.cell? ⟨bc + 1, 1, none⟩ = some (.int .i64 y)) := hide ⟨(hq3.cell (p := ⟨bc, 1, none⟩) (by show bc < w2.heap.size; omega)).trans HSS.out.1, (hq3.cell (p := ⟨bc, 2, none⟩) (by show bc < w2.heap.size; omega)).trans HSS.out.2.1, (hq3.cell (p := ⟨bc, 6, none⟩) (by show bc < w2.heap.size; omega)).trans HSS.out.2.2.1, (hq3.cell (p := ⟨bc + 1, 0, none⟩) (by show bc + 1 < w2.heap.size; omega)).trans HSS.out.2.2.2.1, (hq3.cell (p := ⟨bc + 1, 1, none⟩) (by show bc + 1 < w2.heap.size; omega)).trans HSS.out.2.2.2.2⟩; have h03 : Below W0.heap.size W0 w3 := ((Joins.below_draws _ _ 1 : Below W0.heap.size W0 (World.drew W0)).trans hq2).trans (hq3.mono hz2); have hb3 := hb0.trans (h03.mono (by omega))) | (go_at_call 103; (with_reducible refine (loadAt_any Ai ni ci lo hi ch r (by omega) r0 (by omega) HCH.out _ HNI.out (HR.out.below hb3 HHI.out) (by have := HHI.out; omega)).mono ?_); rintro e w4 ⟨rfl, hq4⟩; have hz4 := hq4.size; have HSS : Hid (w4.cell? ⟨bc, 1, none⟩ = some (.int .i64 cx) ∧ w4.cell? ⟨bc, 2, none⟩ = some (.int .i64 cy) ∧ w4.cell? ⟨bc, 6, none⟩ = some (.slice Ai ni ci) ∧ w4.cell? ⟨bc + 1, 0, none⟩ = some (.int .i64 x) ∧ w4.cell? ⟨bc + 1, 1, none⟩ = some (.int .i64 y)) := hide ⟨(hq4.cell (p := ⟨bc, 1, none⟩) (by show bc < w3.heap.size; omega)).trans HSS.out.1, (hq4.cell (p := ⟨bc, 2, none⟩) (by show bc < w3.heap.size; omega)).trans HSS.out.2.1, (hq4.cell (p := ⟨bc, 6, none⟩) (by show bc < w3.heap.size; omega)).trans HSS.out.2.2.1, (hq4.cell (p := ⟨bc + 1, 0, none⟩) (by show bc + 1 < w3.heap.size; omega)).trans HSS.out.2.2.2.1, (hq4.cell (p := ⟨bc + 1, 1, none⟩) (by show bc + 1 < w3.heap.size; omega)).trans HSS.out.2.2.2.2⟩))
  go_wp2_with fail
  go_ret2
  exact ⟨rfl, hb3.trans (hq4.mono (by omega))⟩

end Go.Proofs.Ytmpccakgpahpoaa
