/-
  CRANES: a slice of structs that hold a text, numbers and a slice each: a site's copy, equality. No condition but those that each theorem names.
-/
import Derived.Test.YtajjophmngabbaaGreatDoorCr2
namespace Go.Proofs.YtajjophmngabbaaGreatDoor
open Go.RowKit
set_option linter.unusedVariables false

set_option maxRecDepth 100000 in
set_option maxHeartbeats 2000000 in
theorem toSite_any (A : Option Addr) (n c lo hi : Nat) (own : Bool) (l : List Crn) (hn : n ≤ 1048576) (hch : ∀ p ∈ l, p.ch.length ≤ 1048576) (w : World) (hr : RdC w lo hi own A n l) (hhi : hi ≤ w.heap.size) :
    Calls Tryz.prog 6 #[.agg #[.slice A n c]] w fun e w' => ∃ A', e = .returned (.agg #[.slice A' n n]) ∧ RdC w' w.heap.size w'.heap.size true A' n l ∧ Below w.heap.size w w' := by
  have HCH := hide hch
  clear hch
  go_enter Tryz.func6, Tryz.ntmps6
  go_wp2_with fail
  obtain ⟨W0, hW0⟩ : ∃ W0 : World, W0 = (((w.alloc (.cells #[.slice A n c] 24)).alloc (.cells #[.slice none 0 0] 30)).alloc (.cells #[.slice none 0 0] 30)) := ⟨_, rfl⟩
  rw [← hW0]
  have bS : Box W0 (w.heap.size) [.slice A n c] := by rw [hW0]; exact ((box_at _ _ _ _ (by simp)).alloc (by simp) _).alloc (by simp; try omega) _
  have bZ : Box W0 (w.heap.size + 1) [.slice none 0 0] := by rw [hW0]; exact (box_at _ _ _ _ (by simp)).alloc (by simp) _
  have bZf : Fz W0 (w.heap.size + 1) := by rw [hW0]; exact (fz_at _ _ _ _ (by simp)).alloc (by simp) _
  have bO : Box W0 (w.heap.size + 2) [.slice none 0 0] := by rw [hW0]; exact box_at _ _ _ _ (by simp)
  have bOf : Fz W0 (w.heap.size + 2) := by rw [hW0]; exact fz_at _ _ _ _ (by simp)
  have hB : Below w.heap.size w W0 := by rw [hW0]; exact (by repeat (first | exact Below.refl _ _ | refine Below.drew ?_ | refine Below.alloc ?_ (by first | (simp; done) | (simp; omega)) _))
  have hs0 : w.heap.size + 3 ≤ W0.heap.size := by rw [hW0]; first | (simp; done) | (simp; omega)
  clear hW0
  replace hr := hr.below hB (by omega)
  refine (toCraneS_any A n c lo hi own l hn HCH.out _ hr (by omega)).mono ?_
  rintro e w1 ⟨Aj, rfl, ho, hb⟩
  have hbb : Below W0.heap.size W0 w1 := Below.trans (by repeat (first | exact Below.refl _ _ | refine Below.drew ?_ | refine Below.alloc ?_ (by first | (simp; done) | (simp; omega)) _)) (Below.mono hb (by simp))
  clear hb
  have hs1 := hbb.size
  replace hr := hr.below hbb (by omega)
  replace bS := bS.below hbb (by omega)
  replace bZ := bZ.below hbb (by omega)
  replace bZf := bZf.below hbb (by omega)
  replace bO := bO.below hbb (by omega)
  replace bOf := bOf.below hbb (by omega)
  replace hB := hB.trans (hbb.mono (by omega))
  clear hbb
  have nbZ : w.heap.size + 1 < w1.heap.size := by omega
  have lbZ_0 := bZ 0 _ rfl
  have lfbZ_0 := bZf 0
  have nbO : w.heap.size + 2 < w1.heap.size := by omega
  have lbO_0 := bO 0 _ rfl
  have lfbO_0 := bOf 0
  go_wp2_with fail
  refine bodyPost_ret (v := .agg #[.slice Aj n n]) (by simp [results, Tryz.results6, go_sem, lbZ_0]) rfl ⟨Aj, rfl, ?_, ?_⟩
  · refine (ho.keep (w' := _) fun g g1 g2 => ?_).mono (by omega) (by simp)
    have hne1 : g ≠ w.heap.size + 1 := by omega
    have hne2 : g ≠ w.heap.size + 2 := by omega
    repeat (with_reducible refine (Below.heap_setCell _ _ _ _ (by simp; try omega)).trans ?_)
    rfl
  · repeat (with_reducible refine Below.setCell ?_ (by simp; try omega) _)
    exact hB

set_option maxRecDepth 100000 in
set_option maxHeartbeats 2000000 in
theorem eqCrane_same (nm : ByteArray) (x y h j b : Int) (Ai Aj : Option Addr) (ni ci cj lo hi lo' hi' : Nat) (ch : List (Int × Int)) (hn : ni ≤ 1048576) (w : World) (hl : ch.length = ni) (hr : Rd w lo hi 2 Ai ni (rChartStep ch)) (hr2 : Rd w lo' hi' 2 Aj ni (rChartStep ch)) (hhi : hi ≤ w.heap.size) (hhi' : hi' ≤ w.heap.size) :
    Calls Tryz.prog 34 #[.agg #[.string nm, .int .i64 x, .int .i64 y, .int .i64 h, .int .i64 j, .int .i64 b, .slice Ai ni ci], .agg #[.string nm, .int .i64 x, .int .i64 y, .int .i64 h, .int .i64 j, .int .i64 b, .slice Aj ni cj]] w fun e w' => e = .returned (.bool true) ∧ Below w.heap.size w w' := by
  have HL := hide hl
  clear hl
  go_enter Tryz.func34, Tryz.ntmps34
  go_wp2_with fail
  obtain ⟨W0, hW0⟩ : ∃ W0 : World, W0 = ((w.alloc (.cells #[.string nm, .int .i64 x, .int .i64 y, .int .i64 h, .int .i64 j, .int .i64 b, .slice Ai ni ci] 45)).alloc (.cells #[.string nm, .int .i64 x, .int .i64 y, .int .i64 h, .int .i64 j, .int .i64 b, .slice Aj ni cj] 45)) := ⟨_, rfl⟩
  rw [← hW0]
  have bS : Box W0 (w.heap.size) [.string nm, .int .i64 x, .int .i64 y, .int .i64 h, .int .i64 j, .int .i64 b, .slice Ai ni ci] := by rw [hW0]; exact (box_at _ _ _ _ (by simp)).alloc (by simp) _
  have bO : Box W0 (w.heap.size + 1) [.string nm, .int .i64 x, .int .i64 y, .int .i64 h, .int .i64 j, .int .i64 b, .slice Aj ni cj] := by rw [hW0]; exact box_at _ _ _ _ (by simp)
  have hB : Below w.heap.size w W0 := by rw [hW0]; exact (by repeat (first | exact Below.refl _ _ | refine Below.drew ?_ | refine Below.alloc ?_ (by first | (simp; done) | (simp; omega)) _))
  have hs0 : w.heap.size + 2 ≤ W0.heap.size := by rw [hW0]; first | (simp; done) | (simp; omega)
  clear hW0
  replace hr := hr.below hB (by omega)
  replace hr2 := hr2.below hB (by omega)
  refine (eqPoint_same x y _).mono ?_
  rintro e w1 ⟨rfl, hb⟩
  have hbb : Below W0.heap.size W0 w1 := Below.trans (by repeat (first | exact Below.refl _ _ | refine Below.drew ?_ | refine Below.alloc ?_ (by first | (simp; done) | (simp; omega)) _)) (Below.mono hb (by simp))
  clear hb
  have hs1 := hbb.size
  replace hr := hr.below hbb (by omega)
  replace hr2 := hr2.below hbb (by omega)
  replace bS := bS.below hbb (by omega)
  replace bO := bO.below hbb (by omega)
  replace hB := hB.trans (hbb.mono (by omega))
  clear hbb
  have nbS : w.heap.size < w1.heap.size := by omega
  have lbS_0 := bS 0 _ rfl
  have lbS_1 := bS 1 _ rfl
  have lbS_2 := bS 2 _ rfl
  have lbS_3 := bS 3 _ rfl
  have lbS_4 := bS 4 _ rfl
  have lbS_5 := bS 5 _ rfl
  have lbS_6 := bS 6 _ rfl
  have nbO : w.heap.size + 1 < w1.heap.size := by omega
  have lbO_0 := bO 0 _ rfl
  have lbO_1 := bO 1 _ rfl
  have lbO_2 := bO 2 _ rfl
  have lbO_3 := bO 3 _ rfl
  have lbO_4 := bO 4 _ rfl
  have lbO_5 := bO 5 _ rfl
  have lbO_6 := bO 6 _ rfl
  go_wp2_with fail
  clear nbS lbS_0 lbS_1 lbS_2 lbS_3 lbS_4 lbS_5 lbS_6 nbO lbO_0 lbO_1 lbO_2 lbO_3 lbO_4 lbO_5 lbO_6
  refine (eqChartStepS_same Ai Aj ni ci cj lo hi lo' hi' ch hn _ HL.out hr hr2 (by omega) (by omega)).mono ?_
  rintro e w2 ⟨rfl, hb⟩
  have hbb : Below w1.heap.size w1 w2 := Below.trans (by repeat (first | exact Below.refl _ _ | refine Below.drew ?_ | refine Below.alloc ?_ (by first | (simp; done) | (simp; omega)) _)) (Below.mono hb (by simp))
  clear hb
  have hs2 := hbb.size
  replace hr := hr.below hbb (by omega)
  replace hr2 := hr2.below hbb (by omega)
  replace bS := bS.below hbb (by omega)
  replace bO := bO.below hbb (by omega)
  replace hB := hB.trans (hbb.mono (by omega))
  clear hbb
  go_wp2_with fail
  go_ret
  exact ⟨rfl, hB⟩

set_option maxRecDepth 100000 in
set_option maxHeartbeats 2000000 in
theorem eqCraneS_same (A A' : Option Addr) (n c c' lo hi lo' hi' : Nat) (own own' : Bool) (l : List Crn) (hn : n ≤ 1048576) (hch : ∀ p ∈ l, p.ch.length ≤ 1048576) (w : World) (h : RdC w lo hi own A n l) (h' : RdC w lo' hi' own' A' n l) (hhi : hi ≤ w.heap.size) (hhi' : hi' ≤ w.heap.size) :
    Calls Tryz.prog 21 #[.slice A n c, .slice A' n c'] w fun e w' => e = .returned (.bool true) ∧ Below w.heap.size w w' := by
  have H1 := hide h.length
  have H2 := hide h
  have H3 := hide h'
  have H4 := hide hch
  clear h h' hch
  go_enter Tryz.func21, Tryz.ntmps21
  go_wp2
  go_loopw [5] (fun i wr => ∃ k : Nat, k ≤ n ∧ i = .int .i64 k ∧ Below w.heap.size w wr) (fun i _ => n - (intOf i).toNat)
  case atStart => exact ⟨0, by omega, rfl, Below.refl _ _⟩
  case round =>
    obtain ⟨k, hk, rfl, hbr⟩ := hrel
    by_cases hlt : k < n
    · obtain ⟨b, off, Ai, ci, rfl, hb1, hb2, c0, c1, c2, c3, c4, c5, c6, hnm, hrd⟩ := H2.out.at_ (i := k) (by rw [H1.out]; exact hlt)
      obtain ⟨b2, off2, Aj, cj, rfl, hb1', hb2', d0, d1, d2, d3, d4, d5, d6, _, hrd2⟩ := H3.out.at_ (i := k) (by rw [H1.out]; exact hlt)
      have hkl : k < l.length := by rw [H1.out]; exact hlt
      have hsz := hbr.size
      replace c0 := (hbr.cell (p := ⟨b, _, none⟩) (by show b < _; omega)).trans c0
      replace c1 := (hbr.cell (p := ⟨b, _, none⟩) (by show b < _; omega)).trans c1
      replace c2 := (hbr.cell (p := ⟨b, _, none⟩) (by show b < _; omega)).trans c2
      replace c3 := (hbr.cell (p := ⟨b, _, none⟩) (by show b < _; omega)).trans c3
      replace c4 := (hbr.cell (p := ⟨b, _, none⟩) (by show b < _; omega)).trans c4
      replace c5 := (hbr.cell (p := ⟨b, _, none⟩) (by show b < _; omega)).trans c5
      replace c6 := (hbr.cell (p := ⟨b, _, none⟩) (by show b < _; omega)).trans c6
      replace d0 := (hbr.cell (p := ⟨b2, _, none⟩) (by show b2 < _; omega)).trans d0
      replace d1 := (hbr.cell (p := ⟨b2, _, none⟩) (by show b2 < _; omega)).trans d1
      replace d2 := (hbr.cell (p := ⟨b2, _, none⟩) (by show b2 < _; omega)).trans d2
      replace d3 := (hbr.cell (p := ⟨b2, _, none⟩) (by show b2 < _; omega)).trans d3
      replace d4 := (hbr.cell (p := ⟨b2, _, none⟩) (by show b2 < _; omega)).trans d4
      replace d5 := (hbr.cell (p := ⟨b2, _, none⟩) (by show b2 < _; omega)).trans d5
      replace d6 := (hbr.cell (p := ⟨b2, _, none⟩) (by show b2 < _; omega)).trans d6
      have hcl := H4.out _ (List.getElem_mem hkl)
      have HRD := hide (hrd.below hbr hhi)
      have HRD2 := hide (hrd2.below hbr hhi')
      clear hrd hrd2
      generalize l[k] = cc at *
      obtain ⟨nm, x, y, h, j, b', ch⟩ := cc
      dsimp only at c0 c1 c2 c3 c4 c5 c6 d0 d1 d2 d3 d4 d5 d6 hnm hcl HRD HRD2
      obtain ⟨ni, hni⟩ : ∃ ni, ch.length = ni := ⟨_, rfl⟩
      rw [hni] at c6 d6 hnm hcl HRD HRD2
      have HNI := hide hni
      clear hni
      go_wp2_with fail
      go_still_tail 8, (by kernel_rfl)
      go_wp2_with fail
      refine (eqCrane_same nm x y h j b' Ai Aj ni ci cj lo hi lo' hi' ch hcl _ HNI.out HRD.out.drew HRD2.out.drew (by simp; omega) (by simp; omega)).mono ?_
      rintro e w2 ⟨rfl, hb2⟩
      go_wp2_with fail
      go_roundw
      case rel => exact ⟨k + 1, by omega, by go_num, hbr.drew.trans (hb2.mono (by simpa using hsz))⟩
      case measure => simp [intOf]; omega
    · obtain rfl : k = n := by omega
      go_wp2
      go_ret
      exact ⟨rfl, hbr⟩

set_option maxRecDepth 100000 in
set_option maxHeartbeats 2000000 in
theorem eqSite_same (A A' : Option Addr) (n c c' lo hi lo' hi' : Nat) (own own' : Bool) (l : List Crn) (hn : n ≤ 1048576) (hch : ∀ p ∈ l, p.ch.length ≤ 1048576) (w : World) (hr : RdC w lo hi own A n l) (hr2 : RdC w lo' hi' own' A' n l) (hhi : hi ≤ w.heap.size) (hhi' : hi' ≤ w.heap.size) :
    Calls Tryz.prog 8 #[.agg #[.slice A n c], .agg #[.slice A' n c']] w fun e w' => e = .returned (.bool true) ∧ Below w.heap.size w w' := by
  have HCH := hide hch
  clear hch
  go_enter Tryz.func8, Tryz.ntmps8
  go_wp2_with fail
  obtain ⟨W0, hW0⟩ : ∃ W0 : World, W0 = ((w.alloc (.cells #[.slice A n c] 30)).alloc (.cells #[.slice A' n c'] 30)) := ⟨_, rfl⟩
  rw [← hW0]
  have bS : Box W0 (w.heap.size) [.slice A n c] := by rw [hW0]; exact (box_at _ _ _ _ (by simp)).alloc (by simp) _
  have bO : Box W0 (w.heap.size + 1) [.slice A' n c'] := by rw [hW0]; exact box_at _ _ _ _ (by simp)
  have hB : Below w.heap.size w W0 := by rw [hW0]; exact (by repeat (first | exact Below.refl _ _ | refine Below.drew ?_ | refine Below.alloc ?_ (by first | (simp; done) | (simp; omega)) _))
  have hs0 : w.heap.size + 2 ≤ W0.heap.size := by rw [hW0]; first | (simp; done) | (simp; omega)
  clear hW0
  replace hr := hr.below hB (by omega)
  replace hr2 := hr2.below hB (by omega)
  refine (eqCraneS_same A A' n c c' lo hi lo' hi' own own' l hn HCH.out _ hr hr2 (by omega) (by omega)).mono ?_
  rintro e w1 ⟨rfl, hb⟩
  have hbb : Below W0.heap.size W0 w1 := Below.trans (by repeat (first | exact Below.refl _ _ | refine Below.drew ?_ | refine Below.alloc ?_ (by first | (simp; done) | (simp; omega)) _)) (Below.mono hb (by simp))
  clear hb
  have hs1 := hbb.size
  replace hr := hr.below hbb (by omega)
  replace hr2 := hr2.below hbb (by omega)
  replace bS := bS.below hbb (by omega)
  replace bO := bO.below hbb (by omega)
  replace hB := hB.trans (hbb.mono (by omega))
  clear hbb
  go_wp2_with fail
  go_ret
  exact ⟨rfl, hB⟩

end Go.Proofs.YtajjophmngabbaaGreatDoor
