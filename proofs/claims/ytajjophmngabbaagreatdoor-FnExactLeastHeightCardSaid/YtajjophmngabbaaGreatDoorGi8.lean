/-
  The program's LeastHeight: how close two cranes are. No condition but those that each theorem names.
-/
import Derived.Test.YtajjophmngabbaaGreatDoorGi7
import Derived.Deep.DeepCutAuto
namespace Go.Proofs.YtajjophmngabbaaGreatDoor
open Go.RowKit
set_option linter.unusedVariables false
set_option linter.unusedSimpArgs false

/-- Memory inside closenessOf: two cranes at q and q + 1, the result at q + 2, what is known so far at q + 3. -/
def ClM (q : Nat) (LA LB : List Value) (bm fi se : Bool) (hh : Int) (W : World) : Prop :=
  Box W q LA ∧ Box W (q + 1) LB ∧ Box W (q + 2) [.bool false, .bool false, .bool false, .int .i64 0] ∧ Fz W (q + 2) ∧ Box W (q + 3) [.bool bm, .bool fi, .bool se, .int .i64 hh] ∧ Fz W (q + 3) ∧ Tq W ∧ q + 4 ≤ W.heap.size ∧ 0 < q
section
variable {q : Nat} {LA LB : List Value} {bm fi se r : Bool} {hh : Int} {W W' : World}
theorem ClM.bel (h : ClM q LA LB bm fi se hh W) (hb : Below W.heap.size W W') : ClM q LA LB bm fi se hh W' := by
  obtain ⟨h1, h2, h3, h4, h5, h6, h7, h8, h9⟩ := h
  have := hb.size
  exact ⟨h1.below hb (by omega), h2.below hb (by omega), h3.below hb (by omega), h4.below hb (by omega), h5.below hb (by omega), h6.below hb (by omega), h7.of hb, by omega, h9⟩
theorem ClM.drew (h : ClM q LA LB bm fi se hh W) : ClM q LA LB bm fi se hh (World.drew W) := h
theorem ClM.a (h : ClM q LA LB bm fi se hh W) : Box W q LA := h.1
theorem ClM.b (h : ClM q LA LB bm fi se hh W) : Box W (q + 1) LB := h.2.1
theorem ClM.o (h : ClM q LA LB bm fi se hh W) : Box W (q + 3) [.bool bm, .bool fi, .bool se, .int .i64 hh] := h.2.2.2.2.1
theorem ClM.f (h : ClM q LA LB bm fi se hh W) : Fz W (q + 3) := h.2.2.2.2.2.1
theorem ClM.t (h : ClM q LA LB bm fi se hh W) : Tq W := h.2.2.2.2.2.2.1
theorem ClM.lt (h : ClM q LA LB bm fi se hh W) : q + 4 ≤ W.heap.size := h.2.2.2.2.2.2.2.1
theorem Tq.set {a : Addr} {v : Value} (h : Tq W) (ha : 0 < a.block) : Tq (W.setCell a v) :=
  ⟨by simpa [World.setCell] using h.1, fun k hk => ⟨(World.cell?_setCell_far _ _ _ _ (by show a.block ≠ 0; omega)).trans (h.2 k hk).1, (World.cell?_setCell_far _ _ _ _ (by show a.block ≠ 0; omega)).trans (h.2 k hk).2⟩⟩
theorem ClM.put0 (h : ClM q LA LB bm fi se hh W) (r : Bool) : ClM q LA LB r fi se hh (W.setCell ⟨q + 3, 0, none⟩ (.bool r)) := by
  obtain ⟨h1, h2, h3, h4, h5, h6, h7, h8, h9⟩ := h
  exact ⟨h1.far _ _ (by show q + 3 ≠ q; omega), h2.far _ _ (by show q + 3 ≠ q + 1; omega), h3.far _ _ (by show q + 3 ≠ q + 2; omega), h4.set _ _, h5.put 0 _ (by simp), h6.set _ _, h7.set (by show 0 < q + 3; omega), by simpa [World.setCell] using h8, h9⟩
theorem ClM.put1 (h : ClM q LA LB bm fi se hh W) (r : Bool) : ClM q LA LB bm r se hh (W.setCell ⟨q + 3, 1, none⟩ (.bool r)) := by
  obtain ⟨h1, h2, h3, h4, h5, h6, h7, h8, h9⟩ := h
  exact ⟨h1.far _ _ (by show q + 3 ≠ q; omega), h2.far _ _ (by show q + 3 ≠ q + 1; omega), h3.far _ _ (by show q + 3 ≠ q + 2; omega), h4.set _ _, h5.put 1 _ (by simp), h6.set _ _, h7.set (by show 0 < q + 3; omega), by simpa [World.setCell] using h8, h9⟩
theorem ClM.put2 (h : ClM q LA LB bm fi se hh W) (r : Bool) : ClM q LA LB bm fi r hh (W.setCell ⟨q + 3, 2, none⟩ (.bool r)) := by
  obtain ⟨h1, h2, h3, h4, h5, h6, h7, h8, h9⟩ := h
  exact ⟨h1.far _ _ (by show q + 3 ≠ q; omega), h2.far _ _ (by show q + 3 ≠ q + 1; omega), h3.far _ _ (by show q + 3 ≠ q + 2; omega), h4.set _ _, h5.put 2 _ (by simp), h6.set _ _, h7.set (by show 0 < q + 3; omega), by simpa [World.setCell] using h8, h9⟩
end
/-- The cells of a list of all directions. -/
def DirC (b o : Nat) (W : World) : Prop := b < W.heap.size ∧ ∀ k, k < 24 → W.cell? ⟨b, o + k, none⟩ = some (.int .i64 (k : Int))
theorem DirC.bel {b o : Nat} {W W' : World} (h : DirC b o W) (hb : Below W.heap.size W W') : DirC b o W' := ⟨Nat.lt_of_lt_of_le h.1 hb.size, fun k hk => (hb.cell (p := ⟨b, o + k, none⟩) h.1).trans (h.2 k hk)⟩
theorem DirC.drew {b o : Nat} {W : World} (h : DirC b o W) : DirC b o (World.drew W) := h
theorem DirC.set {b o : Nat} {W : World} {a : Addr} {v : Value} (h : DirC b o W) (ha : a.block ≠ b) : DirC b o (W.setCell a v) := ⟨by simpa [World.setCell] using h.1, fun k hk => (World.cell?_setCell_far _ _ _ _ ha).trans (h.2 k hk)⟩
/-- .. of a fresh one. -/
theorem DirC.of {w W : World} {A : Option Addr} (h : Rd W w.heap.size W.heap.size 1 A 24 (rInt64 (dirL 24))) : ∃ b o, A = some ⟨b, o, none⟩ ∧ w.heap.size ≤ b ∧ DirC b o W := by
  obtain ⟨b, o, hA, h1, h2, h3⟩ := dir_cell h
  exact ⟨b, o, hA, h1, h2, h3⟩

set_option maxRecDepth 100000 in
set_option maxHeartbeats 8000000 in
theorem closenessOf_is {nm : ByteArray} {x y ha j b : Int} {ch : List (Int × Int)} {Ai : Option Addr} {ni ci : Nat} {nm2 : ByteArray} {x2 y2 hb j2 b2 : Int} {ch2 : List (Int × Int)} {Aj : Option Addr} {nj cj : Nat} {D : Int} {bm fi se : Bool} {hh : Int} (ka : crB (⟨nm, x, y, ha, j, b, ch⟩ : Crn) = true) (kb : crB (⟨nm2, x2, y2, hb, j2, b2, ch2⟩ : Crn) = true) (hD0 : 0 ≤ D) (hD1 : D ≤ 1000) (hc : clN (⟨nm, x, y, ha, j, b, ch⟩ : Crn) (⟨nm2, x2, y2, hb, j2, b2, ch2⟩ : Crn) D = (bm, fi, se, hh)) {w : World} (ht : Tq w) :
    Calls Tryz.prog 19 #[.agg #[.string nm, .int .i64 x, .int .i64 y, .int .i64 ha, .int .i64 j, .int .i64 b, .slice Ai ni ci], .agg #[.string nm2, .int .i64 x2, .int .i64 y2, .int .i64 hb, .int .i64 j2, .int .i64 b2, .slice Aj nj cj], .int .i64 D] w fun e w' => e = .returned (.agg #[.bool bm, .bool fi, .bool se, .int .i64 hh]) ∧ Below w.heap.size w w' := by
  have KA := hide ka
  have KB := hide kb
  obtain ⟨-, -, ⟨hb0', hb1'⟩, -, -⟩ := cr_nums kb
  obtain ⟨⟨u0, u1⟩, ⟨u2, u3⟩, -, -, -⟩ := cr_nums ka
  obtain ⟨⟨v0, v1⟩, ⟨v2, v3⟩, -, -, -⟩ := cr_nums kb
  simp only at hb0' hb1' u0 u1 u2 u3 v0 v1 v2 v3
  have HMSA := hide (show CoS x y x y from ⟨⟨by omega, by omega⟩, ⟨by omega, by omega⟩, ⟨by omega, by omega⟩, ⟨by omega, by omega⟩⟩)
  have HMSB := hide (show CoS x2 y2 x2 y2 from ⟨⟨by omega, by omega⟩, ⟨by omega, by omega⟩, ⟨by omega, by omega⟩, ⟨by omega, by omega⟩⟩)
  have HC := hide hc
  have hq0 := ht.1
  clear ka kb hc u0 u1 u2 u3 v0 v1 v2 v3
  go_enter Tryz.func19, Tryz.ntmps19
  go_wp2_with fail
  obtain ⟨W0, hW0⟩ : ∃ W0 : World, W0 = ((((w.alloc (.cells #[.string nm, .int .i64 x, .int .i64 y, .int .i64 ha, .int .i64 j, .int .i64 b, .slice Ai ni ci] 45)).alloc (.cells #[.string nm2, .int .i64 x2, .int .i64 y2, .int .i64 hb, .int .i64 j2, .int .i64 b2, .slice Aj nj cj] 45)).alloc (.cells #[.bool false, .bool false, .bool false, .int .i64 0] 52)).alloc (.cells #[.bool false, .bool false, .bool false, .int .i64 hb] 52)) := ⟨_, rfl⟩
  rw [← hW0]
  have hB0 : Below w.heap.size w W0 := by rw [hW0]; exact ((((Below.refl _ _).alloc (Nat.le_refl _) _).alloc (by simp) _).alloc (by simp; try omega) _).alloc (by simp; try omega) _
  have hs0 : W0.heap.size = w.heap.size + 4 := by rw [hW0]; simp
  have HM0 := hide (show ClM w.heap.size [.string nm, .int .i64 x, .int .i64 y, .int .i64 ha, .int .i64 j, .int .i64 b, .slice Ai ni ci] [.string nm2, .int .i64 x2, .int .i64 y2, .int .i64 hb, .int .i64 j2, .int .i64 b2, .slice Aj nj cj] false false false hb W0 from ⟨by rw [hW0]; exact (((box_at _ _ _ _ (by simp)).alloc (by simp) _).alloc (by simp; try omega) _).alloc (by simp; try omega) _, by rw [hW0]; exact ((box_at _ _ _ _ (by simp)).alloc (by simp; try omega) _).alloc (by simp; try omega) _, by rw [hW0]; exact (box_at _ _ _ _ (by simp)).alloc (by simp; try omega) _, by rw [hW0]; exact (fz_at _ _ _ _ (by simp)).alloc (by simp; try omega) _, by rw [hW0]; exact box_at _ _ _ _ (by simp), by rw [hW0]; exact fz_at _ _ _ _ (by simp), ht.below hB0 ht.1, by omega, ht.1⟩)
  clear hW0 ht
  refine (allDirections_any _).mono ?_
  rintro e w1 ⟨v, rfl, ho, hb1⟩
  obtain ⟨Ad, cd, rfl, _, _, hrd⟩ := ho.rd
  obtain ⟨bd, od, rfl, hbd, hdc⟩ := DirC.of hrd
  have hs1 := hb1.size
  have HM1 := hide (HM0.out.bel hb1)
  have HD1 := hide hdc
  have hbdn : bd ≥ w.heap.size + 4 := by omega
  have hbz := hB0.trans (hb1.mono (by omega))
  clear ho hrd hdc HM0 hB0 hb1 hs0
  go_wp2_with fail
  go_loopw [17] (fun i wr => ∃ k : Nat, k ≤ 24 ∧ i = .int .i64 k ∧ Hid (ClM w.heap.size [.string nm, .int .i64 x, .int .i64 y, .int .i64 ha, .int .i64 j, .int .i64 b, .slice Ai ni ci] [.string nm2, .int .i64 x2, .int .i64 y2, .int .i64 hb, .int .i64 j2, .int .i64 b2, .slice Aj nj cj] (anyD (fun d => anyD (fun e => bbN (⟨nm, x, y, ha, j, b, ch⟩ : Crn) (⟨nm2, x2, y2, hb, j2, b2, ch2⟩ : Crn) D d e) 24) k) (anyD (fun d => bmN (⟨nm, x, y, ha, j, b, ch⟩ : Crn) (⟨nm2, x2, y2, hb, j2, b2, ch2⟩ : Crn) D d) k) (anyD (fun d => bmN (⟨nm2, x2, y2, hb, j2, b2, ch2⟩ : Crn) (⟨nm, x, y, ha, j, b, ch⟩ : Crn) D d) k) hb wr) ∧ Hid (DirC bd od wr) ∧ Below w.heap.size w wr ∧ w1.heap.size ≤ wr.heap.size) (fun i _ => 24 - (intOf i).toNat)
  case atStart => exact ⟨0, by omega, rfl, HM1, HD1, hbz, Nat.le_refl _⟩
  case round =>
    clear HM1 HD1 hbz
    obtain ⟨k, hk, rfl, HM, HD, hbr, hsr⟩ := hrel
    by_cases hlt : k < 24
    · have hd0 : (0 : Int) ≤ (k : Int) := by omega
      have hd1 : (k : Int) ≤ 23 := by omega
      have zk1 : (k : Int) < 24 := by omega
      have hlt2 : decide ((k : Int) < 24) = true := by simp; omega
      obtain ⟨⟨p1, p2, p3, p4⟩, hpa⟩ : ∃ p, bmI (⟨nm, x, y, ha, j, b, ch⟩ : Crn) (k : Int) = p := ⟨_, rfl⟩
      obtain ⟨⟨q1, q2, q3, q4⟩, hpb⟩ : ∃ p, bmI (⟨nm2, x2, y2, hb, j2, b2, ch2⟩ : Crn) (k : Int) = p := ⟨_, rfl⟩
      have HCOA := hide (show CoS p1 p2 p3 p4 by have := bmI_co KA.out (k : Int); rw [hpa] at this; exact this)
      have HCOB := hide (show CoS q1 q2 q3 q4 by have := bmI_co KB.out (k : Int); rw [hpb] at this; exact this)
      obtain ⟨r1, hr1⟩ : ∃ r, bmN (⟨nm, x, y, ha, j, b, ch⟩ : Crn) (⟨nm2, x2, y2, hb, j2, b2, ch2⟩ : Crn) D (k : Int) = r := ⟨_, rfl⟩
      obtain ⟨r2, hr2⟩ : ∃ r, bmN (⟨nm2, x2, y2, hb, j2, b2, ch2⟩ : Crn) (⟨nm, x, y, ha, j, b, ch⟩ : Crn) D (k : Int) = r := ⟨_, rfl⟩
      have HNA := hide (show nrB p1 p2 p3 p4 x2 y2 x2 y2 D = r1 by rw [← hr1]; unfold bmN nrQ; rw [hpa])
      have HNB := hide (show nrB q1 q2 q3 q4 x y x y D = r2 by rw [← hr2]; unfold bmN nrQ; rw [hpb])
      have HPA := hide hpa
      have HPB := hide hpb
      have HR1 := hide hr1
      have HR2 := hide hr2
      obtain ⟨bm0, hbm⟩ : ∃ z, anyD (fun d => anyD (fun e => bbN (⟨nm, x, y, ha, j, b, ch⟩ : Crn) (⟨nm2, x2, y2, hb, j2, b2, ch2⟩ : Crn) D d e) 24) k = z := ⟨_, rfl⟩
      obtain ⟨fi0, hfi⟩ : ∃ z, anyD (fun d => bmN (⟨nm, x, y, ha, j, b, ch⟩ : Crn) (⟨nm2, x2, y2, hb, j2, b2, ch2⟩ : Crn) D d) k = z := ⟨_, rfl⟩
      obtain ⟨se0, hse⟩ : ∃ z, anyD (fun d => bmN (⟨nm2, x2, y2, hb, j2, b2, ch2⟩ : Crn) (⟨nm, x, y, ha, j, b, ch⟩ : Crn) D d) k = z := ⟨_, rfl⟩
      rw [hbm, hfi, hse] at HM
      have HBM := hide hbm
      have HFI := hide hfi
      have HSE := hide hse
      clear hpa hpb hr1 hr2 hbm hfi hse
      have cD := HD.out.2 k hlt
      have hbdw := HD.out.1
      go_upto_region 5 with fail
      clear cD
      go_cut [] (fun wx => Hid (ClM w.heap.size [.string nm, .int .i64 x, .int .i64 y, .int .i64 ha, .int .i64 j, .int .i64 b, .slice Ai ni ci] [.string nm2, .int .i64 x2, .int .i64 y2, .int .i64 hb, .int .i64 j2, .int .i64 b2, .slice Aj nj cj] bm0 (fi0 || r1) se0 hb wx) ∧ Hid (DirC bd od wx) ∧ Below w.heap.size w wx ∧ w1.heap.size ≤ wx.heap.size)
      case first =>
        cases fi0
        · have hsz := hbr.size
          replace HM := hide HM.out.drew
          have cF := HM.out.o 1 _ rfl
          replace HD := hide HD.out.drew
          refine wp_region_held_drew (S := fun W => Box W w.heap.size [.string nm, .int .i64 x, .int .i64 y, .int .i64 ha, .int .i64 j, .int .i64 b, .slice Ai ni ci] ∧ Box W (w.heap.size + 1) [.string nm2, .int .i64 x2, .int .i64 y2, .int .i64 hb, .int .i64 j2, .int .i64 b2, .slice Aj nj cj]) (by kernel_rfl) (⟨HM.out.a, HM.out.b⟩) (fun hHeld => ?_)
          try simp only [Array.replicate, List.replicate]
          refine wpAnyH_take (i := 0) (v := ?_) rfl (by kernel_rfl) (by kernel_rfl) (by kernel_rfl) (fun _ _ _ h => h) (Or.inl ⟨by rfl, ?_⟩) (by assumption) ?_
          rotate_left
          · (intro w hSw; (try dsimp only at hSw); go_simp; try (with_reducible rfl))
          try simp only [Act.put, List.getElem_toArray, List.getElem_cons_succ, List.getElem_cons_zero, List.setIfInBounds_toArray, List.set_cons_succ, List.set_cons_zero]
          refine wpAnyH_ready (rs := [1]) (by kernel_rfl) (by simp) ?_
          refine AllReadyH.cons rfl (fun KQ hK => ?_) AllReadyH.nil
          go_simp
          refine hK.out _ _ (hHeld) (fun hHeld2 => ?_)
          clear hK KQ hHeld
          have hHeld := hHeld2
          clear hHeld2
          try simp only [Act.put, List.getElem_toArray, List.getElem_cons_succ, List.getElem_cons_zero, List.setIfInBounds_toArray, List.set_cons_succ, List.set_cons_zero]
          refine wpAnyH_take (i := 2) (v := ?_) rfl (by kernel_rfl) (by kernel_rfl) (by kernel_rfl) (fun _ _ _ h => h) (Or.inl ⟨by rfl, ?_⟩) (by assumption) ?_
          rotate_left
          · (intro w hSw; (try dsimp only at hSw); go_simp; try (with_reducible rfl))
          try simp only [Act.put, List.getElem_toArray, List.getElem_cons_succ, List.getElem_cons_zero, List.setIfInBounds_toArray, List.set_cons_succ, List.set_cons_zero]
          refine wpAnyH_take (i := 3) (v := ?_) rfl (by kernel_rfl) (by kernel_rfl) (by kernel_rfl) (fun _ _ _ h => h) (Or.inl ⟨by rfl, ?_⟩) (by assumption) ?_
          rotate_left
          · (intro W9 hSw; have k := hSw.1; have k_0 := k 0 _ rfl; have k_1 := k 1 _ rfl; have k_2 := k 2 _ rfl; have k_3 := k 3 _ rfl; have k_4 := k 4 _ rfl; have k_5 := k 5 _ rfl; have k_6 := k 6 _ rfl; clear hSw k; go_simp; try (with_reducible rfl))
          try simp only [Act.put, List.getElem_toArray, List.getElem_cons_succ, List.getElem_cons_zero, List.setIfInBounds_toArray, List.set_cons_succ, List.set_cons_zero]
          refine wpAnyH_take (i := 4) (v := ?_) rfl (by kernel_rfl) (by kernel_rfl) (by kernel_rfl) (fun _ _ _ h => h) (Or.inl ⟨by rfl, ?_⟩) (by assumption) ?_
          rotate_left
          · (intro w hSw; (try dsimp only at hSw); go_simp; try (with_reducible rfl))
          try simp only [Act.put, List.getElem_toArray, List.getElem_cons_succ, List.getElem_cons_zero, List.setIfInBounds_toArray, List.set_cons_succ, List.set_cons_zero]
          refine wpAnyH_take (i := 6) (v := ?_) rfl (by kernel_rfl) (by kernel_rfl) (by kernel_rfl) (fun _ _ _ h => h) (Or.inl ⟨by rfl, ?_⟩) (by assumption) ?_
          rotate_left
          · (intro w hSw; (try dsimp only at hSw); go_simp; try (with_reducible rfl))
          try simp only [Act.put, List.getElem_toArray, List.getElem_cons_succ, List.getElem_cons_zero, List.setIfInBounds_toArray, List.set_cons_succ, List.set_cons_zero]
          refine wpAnyH_take (i := 7) (v := ?_) rfl (by kernel_rfl) (by kernel_rfl) (by kernel_rfl) (fun _ _ _ h => h) (Or.inl ⟨by rfl, ?_⟩) (by assumption) ?_
          rotate_left
          · (intro W9 hSw; have k := hSw.2; have k_0 := k 0 _ rfl; have k_1 := k 1 _ rfl; have k_2 := k 2 _ rfl; have k_3 := k 3 _ rfl; have k_4 := k 4 _ rfl; have k_5 := k 5 _ rfl; have k_6 := k 6 _ rfl; clear hSw k; go_simp; try (with_reducible rfl))
          try simp only [Act.put, List.getElem_toArray, List.getElem_cons_succ, List.getElem_cons_zero, List.setIfInBounds_toArray, List.set_cons_succ, List.set_cons_zero]
          refine wpAnyH_take (i := 8) (v := ?_) rfl (by kernel_rfl) (by kernel_rfl) (by kernel_rfl) (fun _ _ _ h => h) (Or.inl ⟨by rfl, ?_⟩) (by assumption) ?_
          rotate_left
          · (intro w hSw; (try dsimp only at hSw); go_simp; try (with_reducible rfl))
          try simp only [Act.put, List.getElem_toArray, List.getElem_cons_succ, List.getElem_cons_zero, List.setIfInBounds_toArray, List.set_cons_succ, List.set_cons_zero]
          refine wpAnyH_take (i := 9) (v := ?_) rfl (by kernel_rfl) (by kernel_rfl) (by kernel_rfl) (fun _ _ _ h => h) (Or.inl ⟨by rfl, ?_⟩) (by assumption) ?_
          rotate_left
          · (intro W9 hSw; have k := hSw.2; have k_0 := k 0 _ rfl; have k_1 := k 1 _ rfl; have k_2 := k 2 _ rfl; have k_3 := k 3 _ rfl; have k_4 := k 4 _ rfl; have k_5 := k 5 _ rfl; have k_6 := k 6 _ rfl; clear hSw k; go_simp; try (with_reducible rfl))
          try simp only [Act.put, List.getElem_toArray, List.getElem_cons_succ, List.getElem_cons_zero, List.setIfInBounds_toArray, List.set_cons_succ, List.set_cons_zero]
          refine wpAnyH_take (i := 10) (v := ?_) rfl (by kernel_rfl) (by kernel_rfl) (by kernel_rfl) (fun _ _ _ h => h) (Or.inl ⟨by rfl, ?_⟩) (by assumption) ?_
          rotate_left
          · (intro w hSw; (try dsimp only at hSw); go_simp; try (with_reducible rfl))
          try simp only [Act.put, List.getElem_toArray, List.getElem_cons_succ, List.getElem_cons_zero, List.setIfInBounds_toArray, List.set_cons_succ, List.set_cons_zero]
          refine wpAnyH_take (i := 11) (v := ?_) rfl (by kernel_rfl) (by kernel_rfl) (by kernel_rfl) (fun _ _ _ h => h) (Or.inl ⟨by rfl, ?_⟩) (by assumption) ?_
          rotate_left
          · (intro w hSw; (try dsimp only at hSw); go_simp; try (with_reducible rfl))
          try simp only [Act.put, List.getElem_toArray, List.getElem_cons_succ, List.getElem_cons_zero, List.setIfInBounds_toArray, List.set_cons_succ, List.set_cons_zero]
          refine wpAnyH_ready (rs := [5]) (by kernel_rfl) (by simp) ?_
          refine AllReadyH.cons rfl (fun KQ hK => ?_) AllReadyH.nil
          go_simp
          refine (boom_is KA.out hd0 hd1 HPA.out HM.out.t).mono ?_
          rintro e w4 ⟨rfl, hq4⟩
          have hz4 : wr.heap.size ≤ w4.heap.size := hq4.size
          replace HM := hide (HM.out.bel hq4)
          replace HD := hide (HD.out.bel hq4)
          refine hK.out _ _ (⟨HM.out.a, HM.out.b⟩) (fun hHeld2 => ?_)
          clear hK KQ hHeld
          have hHeld := hHeld2
          clear hHeld2
          try simp only [Act.put, List.getElem_toArray, List.getElem_cons_succ, List.getElem_cons_zero, List.setIfInBounds_toArray, List.set_cons_succ, List.set_cons_zero]
          refine wpAnyH_ready (rs := [12]) (by kernel_rfl) (by simp) ?_
          refine AllReadyH.cons rfl (fun KQ hK => ?_) AllReadyH.nil
          go_simp
          refine (nearer_is HCOA.out HMSB.out hD0 hD1 HNA.out).mono ?_
          rintro e w5 ⟨rfl, hq5⟩
          have hz5 := hq5.size
          replace HM := hide (HM.out.bel hq5)
          clear cF
          have cF := HM.out.o 1 _ rfl
          have fF := HM.out.f 1
          replace HD := hide (HD.out.bel hq5)
          refine hK.out _ _ (⟨HM.out.a, HM.out.b⟩) (fun hHeld2 => ?_)
          clear hK KQ hHeld
          have hHeld := hHeld2
          clear hHeld2
          try simp only [Act.put, List.getElem_toArray, List.getElem_cons_succ, List.getElem_cons_zero, List.setIfInBounds_toArray, List.set_cons_succ, List.set_cons_zero]
          refine wpAnyH_take (i := 13) (v := ?_) rfl (by kernel_rfl) (by kernel_rfl) (by kernel_rfl) (fun _ _ _ h => h) (Or.inl ⟨by rfl, ?_⟩) (by assumption) ?_
          rotate_left
          · (intro w hSw; (try dsimp only at hSw); go_simp; try (with_reducible rfl))
          try simp only [Act.put, List.getElem_toArray, List.getElem_cons_succ, List.getElem_cons_zero, List.setIfInBounds_toArray, List.set_cons_succ, List.set_cons_zero]
          refine wpAnyH_take (i := 14) (v := ?_) rfl (by kernel_rfl) (by kernel_rfl) (by kernel_rfl) (fun _ _ _ h => h) (Or.inl ⟨by rfl, ?_⟩) (by assumption) ?_
          rotate_left
          · (intro w hSw; (try dsimp only at hSw); go_simp; try (with_reducible rfl))
          try simp only [Act.put, List.getElem_toArray, List.getElem_cons_succ, List.getElem_cons_zero, List.setIfInBounds_toArray, List.set_cons_succ, List.set_cons_zero]
          refine wpAnyH_ready (rs := [15]) (by kernel_rfl) (by simp) ?_
          refine AllReadyH.cons rfl (fun KQ hK => ?_) AllReadyH.nil
          go_simp
          refine hK.out _ _ (⟨(HM.out.put1 r1).a, (HM.out.put1 r1).b⟩) (fun hHeld2 => ?_)
          clear hK KQ hHeld
          have hHeld := hHeld2
          clear hHeld2
          try simp only [Act.put, List.getElem_toArray, List.getElem_cons_succ, List.getElem_cons_zero, List.setIfInBounds_toArray, List.set_cons_succ, List.set_cons_zero]
          refine wpAnyH_done (by kernel_rfl) ?_ _
          have hN := hide (HM.out.put1 r1)
          have hNHD := hide (HD.out.set (a := ⟨w.heap.size + 3, 1, none⟩) (v := .bool r1) (by show w.heap.size + 3 ≠ _; omega))
          have hB9 : Below w.heap.size w (w5.setCell ⟨w.heap.size + 3, 1, none⟩ (.bool r1)) := ((hbr.drew.trans (hq4.mono (by show w.heap.size ≤ wr.heap.size; omega))).trans (hq5.mono (by omega))).setCell (by show w.heap.size ≤ w.heap.size + 3; omega) _
          have hS9 : w1.heap.size ≤ (w5.setCell ⟨w.heap.size + 3, 1, none⟩ (.bool r1)).heap.size := by simp [World.setCell]; omega
          go_wp2_with fail
          go_meet
          exact ⟨hN, hNHD, hB9, hS9⟩
        · have hsz := hbr.size
          replace HM := hide HM.out.drew
          have cF := HM.out.o 1 _ rfl
          have fF := HM.out.f 1
          replace HD := hide HD.out.drew
          refine wp_region_held_drew (S := fun W => Box W w.heap.size [.string nm, .int .i64 x, .int .i64 y, .int .i64 ha, .int .i64 j, .int .i64 b, .slice Ai ni ci] ∧ Box W (w.heap.size + 1) [.string nm2, .int .i64 x2, .int .i64 y2, .int .i64 hb, .int .i64 j2, .int .i64 b2, .slice Aj nj cj]) (by kernel_rfl) (⟨HM.out.a, HM.out.b⟩) (fun hHeld => ?_)
          try simp only [Array.replicate, List.replicate]
          refine wpAnyH_take (i := 0) (v := ?_) rfl (by kernel_rfl) (by kernel_rfl) (by kernel_rfl) (fun _ _ _ h => h) (Or.inl ⟨by rfl, ?_⟩) (by assumption) ?_
          rotate_left
          · (intro w hSw; (try dsimp only at hSw); go_simp; try (with_reducible rfl))
          try simp only [Act.put, List.getElem_toArray, List.getElem_cons_succ, List.getElem_cons_zero, List.setIfInBounds_toArray, List.set_cons_succ, List.set_cons_zero]
          refine wpAnyH_ready (rs := [1]) (by kernel_rfl) (by simp) ?_
          refine AllReadyH.cons rfl (fun KQ hK => ?_) AllReadyH.nil
          go_simp
          refine hK.out _ _ (hHeld) (fun hHeld2 => ?_)
          clear hK KQ hHeld
          have hHeld := hHeld2
          clear hHeld2
          try simp only [Act.put, List.getElem_toArray, List.getElem_cons_succ, List.getElem_cons_zero, List.setIfInBounds_toArray, List.set_cons_succ, List.set_cons_zero]
          refine wpAnyH_take (i := 2) (v := ?_) rfl (by kernel_rfl) (by kernel_rfl) (by kernel_rfl) (fun _ _ _ h => h) (Or.inl ⟨by rfl, ?_⟩) (by assumption) ?_
          rotate_left
          · (intro w hSw; (try dsimp only at hSw); go_simp; try (with_reducible rfl))
          try simp only [Act.put, List.getElem_toArray, List.getElem_cons_succ, List.getElem_cons_zero, List.setIfInBounds_toArray, List.set_cons_succ, List.set_cons_zero]
          refine wpAnyH_take (i := 3) (v := undef) rfl (by kernel_rfl) (by kernel_rfl) (by kernel_rfl) (fun _ _ _ h => h) (Or.inr ⟨by rfl, rfl⟩) (by assumption) ?_
          try simp only [Act.put, List.getElem_toArray, List.getElem_cons_succ, List.getElem_cons_zero, List.setIfInBounds_toArray, List.set_cons_succ, List.set_cons_zero]
          refine wpAnyH_take (i := 4) (v := undef) rfl (by kernel_rfl) (by kernel_rfl) (by kernel_rfl) (fun _ _ _ h => h) (Or.inr ⟨by rfl, rfl⟩) (by assumption) ?_
          try simp only [Act.put, List.getElem_toArray, List.getElem_cons_succ, List.getElem_cons_zero, List.setIfInBounds_toArray, List.set_cons_succ, List.set_cons_zero]
          refine wpAnyH_take (i := 5) (v := undef) rfl (by kernel_rfl) (by kernel_rfl) (by kernel_rfl) (fun _ _ _ h => h) (Or.inr ⟨by rfl, rfl⟩) (by assumption) ?_
          try simp only [Act.put, List.getElem_toArray, List.getElem_cons_succ, List.getElem_cons_zero, List.setIfInBounds_toArray, List.set_cons_succ, List.set_cons_zero]
          refine wpAnyH_take (i := 6) (v := undef) rfl (by kernel_rfl) (by kernel_rfl) (by kernel_rfl) (fun _ _ _ h => h) (Or.inr ⟨by rfl, rfl⟩) (by assumption) ?_
          try simp only [Act.put, List.getElem_toArray, List.getElem_cons_succ, List.getElem_cons_zero, List.setIfInBounds_toArray, List.set_cons_succ, List.set_cons_zero]
          refine wpAnyH_take (i := 7) (v := undef) rfl (by kernel_rfl) (by kernel_rfl) (by kernel_rfl) (fun _ _ _ h => h) (Or.inr ⟨by rfl, rfl⟩) (by assumption) ?_
          try simp only [Act.put, List.getElem_toArray, List.getElem_cons_succ, List.getElem_cons_zero, List.setIfInBounds_toArray, List.set_cons_succ, List.set_cons_zero]
          refine wpAnyH_take (i := 8) (v := undef) rfl (by kernel_rfl) (by kernel_rfl) (by kernel_rfl) (fun _ _ _ h => h) (Or.inr ⟨by rfl, rfl⟩) (by assumption) ?_
          try simp only [Act.put, List.getElem_toArray, List.getElem_cons_succ, List.getElem_cons_zero, List.setIfInBounds_toArray, List.set_cons_succ, List.set_cons_zero]
          refine wpAnyH_take (i := 9) (v := undef) rfl (by kernel_rfl) (by kernel_rfl) (by kernel_rfl) (fun _ _ _ h => h) (Or.inr ⟨by rfl, rfl⟩) (by assumption) ?_
          try simp only [Act.put, List.getElem_toArray, List.getElem_cons_succ, List.getElem_cons_zero, List.setIfInBounds_toArray, List.set_cons_succ, List.set_cons_zero]
          refine wpAnyH_take (i := 10) (v := undef) rfl (by kernel_rfl) (by kernel_rfl) (by kernel_rfl) (fun _ _ _ h => h) (Or.inr ⟨by rfl, rfl⟩) (by assumption) ?_
          try simp only [Act.put, List.getElem_toArray, List.getElem_cons_succ, List.getElem_cons_zero, List.setIfInBounds_toArray, List.set_cons_succ, List.set_cons_zero]
          refine wpAnyH_take (i := 11) (v := undef) rfl (by kernel_rfl) (by kernel_rfl) (by kernel_rfl) (fun _ _ _ h => h) (Or.inr ⟨by rfl, rfl⟩) (by assumption) ?_
          try simp only [Act.put, List.getElem_toArray, List.getElem_cons_succ, List.getElem_cons_zero, List.setIfInBounds_toArray, List.set_cons_succ, List.set_cons_zero]
          refine wpAnyH_take (i := 12) (v := undef) rfl (by kernel_rfl) (by kernel_rfl) (by kernel_rfl) (fun _ _ _ h => h) (Or.inr ⟨by rfl, rfl⟩) (by assumption) ?_
          try simp only [Act.put, List.getElem_toArray, List.getElem_cons_succ, List.getElem_cons_zero, List.setIfInBounds_toArray, List.set_cons_succ, List.set_cons_zero]
          refine wpAnyH_take (i := 13) (v := .bool true) rfl (by kernel_rfl) (by kernel_rfl) (by kernel_rfl) (fun _ _ _ h => h) (Or.inl ⟨by rfl, (by intro w hSw; (try dsimp only at hSw); go_simp)⟩) (by assumption) ?_
          try simp only [Act.put, List.getElem_toArray, List.getElem_cons_succ, List.getElem_cons_zero, List.setIfInBounds_toArray, List.set_cons_succ, List.set_cons_zero]
          refine wpAnyH_take (i := 14) (v := ?_) rfl (by kernel_rfl) (by kernel_rfl) (by kernel_rfl) (fun _ _ _ h => h) (Or.inl ⟨by rfl, ?_⟩) (by assumption) ?_
          rotate_left
          · (intro w hSw; (try dsimp only at hSw); go_simp; try (with_reducible rfl))
          try simp only [Act.put, List.getElem_toArray, List.getElem_cons_succ, List.getElem_cons_zero, List.setIfInBounds_toArray, List.set_cons_succ, List.set_cons_zero]
          refine wpAnyH_ready (rs := [15]) (by kernel_rfl) (by simp) ?_
          refine AllReadyH.cons rfl (fun KQ hK => ?_) AllReadyH.nil
          go_simp
          refine hK.out _ _ (⟨(HM.out.put1 true).a, (HM.out.put1 true).b⟩) (fun hHeld2 => ?_)
          clear hK KQ hHeld
          have hHeld := hHeld2
          clear hHeld2
          try simp only [Act.put, List.getElem_toArray, List.getElem_cons_succ, List.getElem_cons_zero, List.setIfInBounds_toArray, List.set_cons_succ, List.set_cons_zero]
          refine wpAnyH_done (by kernel_rfl) ?_ _
          have hN := hide (HM.out.put1 true)
          have hNHD := hide (HD.out.set (a := ⟨w.heap.size + 3, 1, none⟩) (v := .bool true) (by show w.heap.size + 3 ≠ _; omega))
          go_wp2_with fail
          go_meet
          exact ⟨hN, hNHD, hbr.drew.setCell (by show w.heap.size ≤ w.heap.size + 3; omega) _, by simp [World.setCell]; exact hsr⟩
      case rest =>
        clear HM HD hbr hsr hbdw
        obtain ⟨HM, HD, hbr, hsr⟩ := hcut
        rename World => wr
        obtain ⟨fi1, hfi1⟩ : ∃ z, (fi0 || r1) = z := ⟨_, rfl⟩
        rw [hfi1] at HM
        have HF1 := hide hfi1
        clear hfi1
        go_upto_region 6 with fail
        go_cut [] (fun wx => Hid (ClM w.heap.size [.string nm, .int .i64 x, .int .i64 y, .int .i64 ha, .int .i64 j, .int .i64 b, .slice Ai ni ci] [.string nm2, .int .i64 x2, .int .i64 y2, .int .i64 hb, .int .i64 j2, .int .i64 b2, .slice Aj nj cj] bm0 fi1 (se0 || r2) hb wx) ∧ Hid (DirC bd od wx) ∧ Below w.heap.size w wx ∧ w1.heap.size ≤ wx.heap.size)
        case first =>
          cases se0
          · have hsz := hbr.size
            replace HM := hide HM.out.drew
            have cF := HM.out.o 2 _ rfl
            replace HD := hide HD.out.drew
            refine wp_region_held_drew (S := fun W => Box W w.heap.size [.string nm, .int .i64 x, .int .i64 y, .int .i64 ha, .int .i64 j, .int .i64 b, .slice Ai ni ci] ∧ Box W (w.heap.size + 1) [.string nm2, .int .i64 x2, .int .i64 y2, .int .i64 hb, .int .i64 j2, .int .i64 b2, .slice Aj nj cj]) (by kernel_rfl) (⟨HM.out.a, HM.out.b⟩) (fun hHeld => ?_)
            try simp only [Array.replicate, List.replicate]
            refine wpAnyH_take (i := 0) (v := ?_) rfl (by kernel_rfl) (by kernel_rfl) (by kernel_rfl) (fun _ _ _ h => h) (Or.inl ⟨by rfl, ?_⟩) (by assumption) ?_
            rotate_left
            · (intro w hSw; (try dsimp only at hSw); go_simp; try (with_reducible rfl))
            try simp only [Act.put, List.getElem_toArray, List.getElem_cons_succ, List.getElem_cons_zero, List.setIfInBounds_toArray, List.set_cons_succ, List.set_cons_zero]
            refine wpAnyH_ready (rs := [1]) (by kernel_rfl) (by simp) ?_
            refine AllReadyH.cons rfl (fun KQ hK => ?_) AllReadyH.nil
            go_simp
            refine hK.out _ _ (hHeld) (fun hHeld2 => ?_)
            clear hK KQ hHeld
            have hHeld := hHeld2
            clear hHeld2
            try simp only [Act.put, List.getElem_toArray, List.getElem_cons_succ, List.getElem_cons_zero, List.setIfInBounds_toArray, List.set_cons_succ, List.set_cons_zero]
            refine wpAnyH_take (i := 2) (v := ?_) rfl (by kernel_rfl) (by kernel_rfl) (by kernel_rfl) (fun _ _ _ h => h) (Or.inl ⟨by rfl, ?_⟩) (by assumption) ?_
            rotate_left
            · (intro w hSw; (try dsimp only at hSw); go_simp; try (with_reducible rfl))
            try simp only [Act.put, List.getElem_toArray, List.getElem_cons_succ, List.getElem_cons_zero, List.setIfInBounds_toArray, List.set_cons_succ, List.set_cons_zero]
            refine wpAnyH_take (i := 3) (v := ?_) rfl (by kernel_rfl) (by kernel_rfl) (by kernel_rfl) (fun _ _ _ h => h) (Or.inl ⟨by rfl, ?_⟩) (by assumption) ?_
            rotate_left
            · (intro W9 hSw; have k := hSw.2; have k_0 := k 0 _ rfl; have k_1 := k 1 _ rfl; have k_2 := k 2 _ rfl; have k_3 := k 3 _ rfl; have k_4 := k 4 _ rfl; have k_5 := k 5 _ rfl; have k_6 := k 6 _ rfl; clear hSw k; go_simp; try (with_reducible rfl))
            try simp only [Act.put, List.getElem_toArray, List.getElem_cons_succ, List.getElem_cons_zero, List.setIfInBounds_toArray, List.set_cons_succ, List.set_cons_zero]
            refine wpAnyH_take (i := 4) (v := ?_) rfl (by kernel_rfl) (by kernel_rfl) (by kernel_rfl) (fun _ _ _ h => h) (Or.inl ⟨by rfl, ?_⟩) (by assumption) ?_
            rotate_left
            · (intro w hSw; (try dsimp only at hSw); go_simp; try (with_reducible rfl))
            try simp only [Act.put, List.getElem_toArray, List.getElem_cons_succ, List.getElem_cons_zero, List.setIfInBounds_toArray, List.set_cons_succ, List.set_cons_zero]
            refine wpAnyH_take (i := 6) (v := ?_) rfl (by kernel_rfl) (by kernel_rfl) (by kernel_rfl) (fun _ _ _ h => h) (Or.inl ⟨by rfl, ?_⟩) (by assumption) ?_
            rotate_left
            · (intro w hSw; (try dsimp only at hSw); go_simp; try (with_reducible rfl))
            try simp only [Act.put, List.getElem_toArray, List.getElem_cons_succ, List.getElem_cons_zero, List.setIfInBounds_toArray, List.set_cons_succ, List.set_cons_zero]
            refine wpAnyH_take (i := 7) (v := ?_) rfl (by kernel_rfl) (by kernel_rfl) (by kernel_rfl) (fun _ _ _ h => h) (Or.inl ⟨by rfl, ?_⟩) (by assumption) ?_
            rotate_left
            · (intro W9 hSw; have k := hSw.1; have k_0 := k 0 _ rfl; have k_1 := k 1 _ rfl; have k_2 := k 2 _ rfl; have k_3 := k 3 _ rfl; have k_4 := k 4 _ rfl; have k_5 := k 5 _ rfl; have k_6 := k 6 _ rfl; clear hSw k; go_simp; try (with_reducible rfl))
            try simp only [Act.put, List.getElem_toArray, List.getElem_cons_succ, List.getElem_cons_zero, List.setIfInBounds_toArray, List.set_cons_succ, List.set_cons_zero]
            refine wpAnyH_take (i := 8) (v := ?_) rfl (by kernel_rfl) (by kernel_rfl) (by kernel_rfl) (fun _ _ _ h => h) (Or.inl ⟨by rfl, ?_⟩) (by assumption) ?_
            rotate_left
            · (intro w hSw; (try dsimp only at hSw); go_simp; try (with_reducible rfl))
            try simp only [Act.put, List.getElem_toArray, List.getElem_cons_succ, List.getElem_cons_zero, List.setIfInBounds_toArray, List.set_cons_succ, List.set_cons_zero]
            refine wpAnyH_take (i := 9) (v := ?_) rfl (by kernel_rfl) (by kernel_rfl) (by kernel_rfl) (fun _ _ _ h => h) (Or.inl ⟨by rfl, ?_⟩) (by assumption) ?_
            rotate_left
            · (intro W9 hSw; have k := hSw.1; have k_0 := k 0 _ rfl; have k_1 := k 1 _ rfl; have k_2 := k 2 _ rfl; have k_3 := k 3 _ rfl; have k_4 := k 4 _ rfl; have k_5 := k 5 _ rfl; have k_6 := k 6 _ rfl; clear hSw k; go_simp; try (with_reducible rfl))
            try simp only [Act.put, List.getElem_toArray, List.getElem_cons_succ, List.getElem_cons_zero, List.setIfInBounds_toArray, List.set_cons_succ, List.set_cons_zero]
            refine wpAnyH_take (i := 10) (v := ?_) rfl (by kernel_rfl) (by kernel_rfl) (by kernel_rfl) (fun _ _ _ h => h) (Or.inl ⟨by rfl, ?_⟩) (by assumption) ?_
            rotate_left
            · (intro w hSw; (try dsimp only at hSw); go_simp; try (with_reducible rfl))
            try simp only [Act.put, List.getElem_toArray, List.getElem_cons_succ, List.getElem_cons_zero, List.setIfInBounds_toArray, List.set_cons_succ, List.set_cons_zero]
            refine wpAnyH_take (i := 11) (v := ?_) rfl (by kernel_rfl) (by kernel_rfl) (by kernel_rfl) (fun _ _ _ h => h) (Or.inl ⟨by rfl, ?_⟩) (by assumption) ?_
            rotate_left
            · (intro w hSw; (try dsimp only at hSw); go_simp; try (with_reducible rfl))
            try simp only [Act.put, List.getElem_toArray, List.getElem_cons_succ, List.getElem_cons_zero, List.setIfInBounds_toArray, List.set_cons_succ, List.set_cons_zero]
            refine wpAnyH_ready (rs := [5]) (by kernel_rfl) (by simp) ?_
            refine AllReadyH.cons rfl (fun KQ hK => ?_) AllReadyH.nil
            go_simp
            refine (boom_is KB.out hd0 hd1 HPB.out HM.out.t).mono ?_
            rintro e w4 ⟨rfl, hq4⟩
            have hz4 : wr.heap.size ≤ w4.heap.size := hq4.size
            replace HM := hide (HM.out.bel hq4)
            replace HD := hide (HD.out.bel hq4)
            refine hK.out _ _ (⟨HM.out.a, HM.out.b⟩) (fun hHeld2 => ?_)
            clear hK KQ hHeld
            have hHeld := hHeld2
            clear hHeld2
            try simp only [Act.put, List.getElem_toArray, List.getElem_cons_succ, List.getElem_cons_zero, List.setIfInBounds_toArray, List.set_cons_succ, List.set_cons_zero]
            refine wpAnyH_ready (rs := [12]) (by kernel_rfl) (by simp) ?_
            refine AllReadyH.cons rfl (fun KQ hK => ?_) AllReadyH.nil
            go_simp
            refine (nearer_is HCOB.out HMSA.out hD0 hD1 HNB.out).mono ?_
            rintro e w5 ⟨rfl, hq5⟩
            have hz5 := hq5.size
            replace HM := hide (HM.out.bel hq5)
            clear cF
            have cF := HM.out.o 2 _ rfl
            have fF := HM.out.f 2
            replace HD := hide (HD.out.bel hq5)
            refine hK.out _ _ (⟨HM.out.a, HM.out.b⟩) (fun hHeld2 => ?_)
            clear hK KQ hHeld
            have hHeld := hHeld2
            clear hHeld2
            try simp only [Act.put, List.getElem_toArray, List.getElem_cons_succ, List.getElem_cons_zero, List.setIfInBounds_toArray, List.set_cons_succ, List.set_cons_zero]
            refine wpAnyH_take (i := 13) (v := ?_) rfl (by kernel_rfl) (by kernel_rfl) (by kernel_rfl) (fun _ _ _ h => h) (Or.inl ⟨by rfl, ?_⟩) (by assumption) ?_
            rotate_left
            · (intro w hSw; (try dsimp only at hSw); go_simp; try (with_reducible rfl))
            try simp only [Act.put, List.getElem_toArray, List.getElem_cons_succ, List.getElem_cons_zero, List.setIfInBounds_toArray, List.set_cons_succ, List.set_cons_zero]
            refine wpAnyH_take (i := 14) (v := ?_) rfl (by kernel_rfl) (by kernel_rfl) (by kernel_rfl) (fun _ _ _ h => h) (Or.inl ⟨by rfl, ?_⟩) (by assumption) ?_
            rotate_left
            · (intro w hSw; (try dsimp only at hSw); go_simp; try (with_reducible rfl))
            try simp only [Act.put, List.getElem_toArray, List.getElem_cons_succ, List.getElem_cons_zero, List.setIfInBounds_toArray, List.set_cons_succ, List.set_cons_zero]
            refine wpAnyH_ready (rs := [15]) (by kernel_rfl) (by simp) ?_
            refine AllReadyH.cons rfl (fun KQ hK => ?_) AllReadyH.nil
            go_simp
            refine hK.out _ _ (⟨(HM.out.put2 r2).a, (HM.out.put2 r2).b⟩) (fun hHeld2 => ?_)
            clear hK KQ hHeld
            have hHeld := hHeld2
            clear hHeld2
            try simp only [Act.put, List.getElem_toArray, List.getElem_cons_succ, List.getElem_cons_zero, List.setIfInBounds_toArray, List.set_cons_succ, List.set_cons_zero]
            refine wpAnyH_done (by kernel_rfl) ?_ _
            have hN := hide (HM.out.put2 r2)
            have hNHD := hide (HD.out.set (a := ⟨w.heap.size + 3, 2, none⟩) (v := .bool r2) (by show w.heap.size + 3 ≠ _; omega))
            have hB9 : Below w.heap.size w (w5.setCell ⟨w.heap.size + 3, 2, none⟩ (.bool r2)) := ((hbr.drew.trans (hq4.mono (by show w.heap.size ≤ wr.heap.size; omega))).trans (hq5.mono (by omega))).setCell (by show w.heap.size ≤ w.heap.size + 3; omega) _
            have hS9 : w1.heap.size ≤ (w5.setCell ⟨w.heap.size + 3, 2, none⟩ (.bool r2)).heap.size := by simp [World.setCell]; omega
            go_wp2_with fail
            go_meet
            exact ⟨hN, hNHD, hB9, hS9⟩
          · have hsz := hbr.size
            replace HM := hide HM.out.drew
            have cF := HM.out.o 2 _ rfl
            have fF := HM.out.f 2
            replace HD := hide HD.out.drew
            refine wp_region_held_drew (S := fun W => Box W w.heap.size [.string nm, .int .i64 x, .int .i64 y, .int .i64 ha, .int .i64 j, .int .i64 b, .slice Ai ni ci] ∧ Box W (w.heap.size + 1) [.string nm2, .int .i64 x2, .int .i64 y2, .int .i64 hb, .int .i64 j2, .int .i64 b2, .slice Aj nj cj]) (by kernel_rfl) (⟨HM.out.a, HM.out.b⟩) (fun hHeld => ?_)
            try simp only [Array.replicate, List.replicate]
            refine wpAnyH_take (i := 0) (v := ?_) rfl (by kernel_rfl) (by kernel_rfl) (by kernel_rfl) (fun _ _ _ h => h) (Or.inl ⟨by rfl, ?_⟩) (by assumption) ?_
            rotate_left
            · (intro w hSw; (try dsimp only at hSw); go_simp; try (with_reducible rfl))
            try simp only [Act.put, List.getElem_toArray, List.getElem_cons_succ, List.getElem_cons_zero, List.setIfInBounds_toArray, List.set_cons_succ, List.set_cons_zero]
            refine wpAnyH_ready (rs := [1]) (by kernel_rfl) (by simp) ?_
            refine AllReadyH.cons rfl (fun KQ hK => ?_) AllReadyH.nil
            go_simp
            refine hK.out _ _ (hHeld) (fun hHeld2 => ?_)
            clear hK KQ hHeld
            have hHeld := hHeld2
            clear hHeld2
            try simp only [Act.put, List.getElem_toArray, List.getElem_cons_succ, List.getElem_cons_zero, List.setIfInBounds_toArray, List.set_cons_succ, List.set_cons_zero]
            refine wpAnyH_take (i := 2) (v := ?_) rfl (by kernel_rfl) (by kernel_rfl) (by kernel_rfl) (fun _ _ _ h => h) (Or.inl ⟨by rfl, ?_⟩) (by assumption) ?_
            rotate_left
            · (intro w hSw; (try dsimp only at hSw); go_simp; try (with_reducible rfl))
            try simp only [Act.put, List.getElem_toArray, List.getElem_cons_succ, List.getElem_cons_zero, List.setIfInBounds_toArray, List.set_cons_succ, List.set_cons_zero]
            refine wpAnyH_take (i := 3) (v := undef) rfl (by kernel_rfl) (by kernel_rfl) (by kernel_rfl) (fun _ _ _ h => h) (Or.inr ⟨by rfl, rfl⟩) (by assumption) ?_
            try simp only [Act.put, List.getElem_toArray, List.getElem_cons_succ, List.getElem_cons_zero, List.setIfInBounds_toArray, List.set_cons_succ, List.set_cons_zero]
            refine wpAnyH_take (i := 4) (v := undef) rfl (by kernel_rfl) (by kernel_rfl) (by kernel_rfl) (fun _ _ _ h => h) (Or.inr ⟨by rfl, rfl⟩) (by assumption) ?_
            try simp only [Act.put, List.getElem_toArray, List.getElem_cons_succ, List.getElem_cons_zero, List.setIfInBounds_toArray, List.set_cons_succ, List.set_cons_zero]
            refine wpAnyH_take (i := 5) (v := undef) rfl (by kernel_rfl) (by kernel_rfl) (by kernel_rfl) (fun _ _ _ h => h) (Or.inr ⟨by rfl, rfl⟩) (by assumption) ?_
            try simp only [Act.put, List.getElem_toArray, List.getElem_cons_succ, List.getElem_cons_zero, List.setIfInBounds_toArray, List.set_cons_succ, List.set_cons_zero]
            refine wpAnyH_take (i := 6) (v := undef) rfl (by kernel_rfl) (by kernel_rfl) (by kernel_rfl) (fun _ _ _ h => h) (Or.inr ⟨by rfl, rfl⟩) (by assumption) ?_
            try simp only [Act.put, List.getElem_toArray, List.getElem_cons_succ, List.getElem_cons_zero, List.setIfInBounds_toArray, List.set_cons_succ, List.set_cons_zero]
            refine wpAnyH_take (i := 7) (v := undef) rfl (by kernel_rfl) (by kernel_rfl) (by kernel_rfl) (fun _ _ _ h => h) (Or.inr ⟨by rfl, rfl⟩) (by assumption) ?_
            try simp only [Act.put, List.getElem_toArray, List.getElem_cons_succ, List.getElem_cons_zero, List.setIfInBounds_toArray, List.set_cons_succ, List.set_cons_zero]
            refine wpAnyH_take (i := 8) (v := undef) rfl (by kernel_rfl) (by kernel_rfl) (by kernel_rfl) (fun _ _ _ h => h) (Or.inr ⟨by rfl, rfl⟩) (by assumption) ?_
            try simp only [Act.put, List.getElem_toArray, List.getElem_cons_succ, List.getElem_cons_zero, List.setIfInBounds_toArray, List.set_cons_succ, List.set_cons_zero]
            refine wpAnyH_take (i := 9) (v := undef) rfl (by kernel_rfl) (by kernel_rfl) (by kernel_rfl) (fun _ _ _ h => h) (Or.inr ⟨by rfl, rfl⟩) (by assumption) ?_
            try simp only [Act.put, List.getElem_toArray, List.getElem_cons_succ, List.getElem_cons_zero, List.setIfInBounds_toArray, List.set_cons_succ, List.set_cons_zero]
            refine wpAnyH_take (i := 10) (v := undef) rfl (by kernel_rfl) (by kernel_rfl) (by kernel_rfl) (fun _ _ _ h => h) (Or.inr ⟨by rfl, rfl⟩) (by assumption) ?_
            try simp only [Act.put, List.getElem_toArray, List.getElem_cons_succ, List.getElem_cons_zero, List.setIfInBounds_toArray, List.set_cons_succ, List.set_cons_zero]
            refine wpAnyH_take (i := 11) (v := undef) rfl (by kernel_rfl) (by kernel_rfl) (by kernel_rfl) (fun _ _ _ h => h) (Or.inr ⟨by rfl, rfl⟩) (by assumption) ?_
            try simp only [Act.put, List.getElem_toArray, List.getElem_cons_succ, List.getElem_cons_zero, List.setIfInBounds_toArray, List.set_cons_succ, List.set_cons_zero]
            refine wpAnyH_take (i := 12) (v := undef) rfl (by kernel_rfl) (by kernel_rfl) (by kernel_rfl) (fun _ _ _ h => h) (Or.inr ⟨by rfl, rfl⟩) (by assumption) ?_
            try simp only [Act.put, List.getElem_toArray, List.getElem_cons_succ, List.getElem_cons_zero, List.setIfInBounds_toArray, List.set_cons_succ, List.set_cons_zero]
            refine wpAnyH_take (i := 13) (v := .bool true) rfl (by kernel_rfl) (by kernel_rfl) (by kernel_rfl) (fun _ _ _ h => h) (Or.inl ⟨by rfl, (by intro w hSw; (try dsimp only at hSw); go_simp)⟩) (by assumption) ?_
            try simp only [Act.put, List.getElem_toArray, List.getElem_cons_succ, List.getElem_cons_zero, List.setIfInBounds_toArray, List.set_cons_succ, List.set_cons_zero]
            refine wpAnyH_take (i := 14) (v := ?_) rfl (by kernel_rfl) (by kernel_rfl) (by kernel_rfl) (fun _ _ _ h => h) (Or.inl ⟨by rfl, ?_⟩) (by assumption) ?_
            rotate_left
            · (intro w hSw; (try dsimp only at hSw); go_simp; try (with_reducible rfl))
            try simp only [Act.put, List.getElem_toArray, List.getElem_cons_succ, List.getElem_cons_zero, List.setIfInBounds_toArray, List.set_cons_succ, List.set_cons_zero]
            refine wpAnyH_ready (rs := [15]) (by kernel_rfl) (by simp) ?_
            refine AllReadyH.cons rfl (fun KQ hK => ?_) AllReadyH.nil
            go_simp
            refine hK.out _ _ (⟨(HM.out.put2 true).a, (HM.out.put2 true).b⟩) (fun hHeld2 => ?_)
            clear hK KQ hHeld
            have hHeld := hHeld2
            clear hHeld2
            try simp only [Act.put, List.getElem_toArray, List.getElem_cons_succ, List.getElem_cons_zero, List.setIfInBounds_toArray, List.set_cons_succ, List.set_cons_zero]
            refine wpAnyH_done (by kernel_rfl) ?_ _
            have hN := hide (HM.out.put2 true)
            have hNHD := hide (HD.out.set (a := ⟨w.heap.size + 3, 2, none⟩) (v := .bool true) (by show w.heap.size + 3 ≠ _; omega))
            go_wp2_with fail
            go_meet
            exact ⟨hN, hNHD, hbr.drew.setCell (by show w.heap.size ≤ w.heap.size + 3; omega) _, by simp [World.setCell]; exact hsr⟩
        case rest =>
          clear HM HD hbr hsr
          obtain ⟨HM, HD, hbr, hsr⟩ := hcut
          rename World => wr
          obtain ⟨se1, hse1⟩ : ∃ z, (se0 || r2) = z := ⟨_, rfl⟩
          rw [hse1] at HM
          have HS1 := hide hse1
          clear hse1
          have hsz := hbr.size
          go_wp2_with fail
          refine (allDirections_any _).mono ?_
          rintro e w2 ⟨v2, rfl, ho, hb2⟩
          obtain ⟨Ae, ce, rfl, _, _, hrd⟩ := ho.rd
          obtain ⟨be, oe, rfl, hbe, hec⟩ := DirC.of hrd
          have hs2 := hb2.size
          have hben : be ≥ w.heap.size + 4 := by have := HM.out.lt; omega
          replace HM := hide (HM.out.bel hb2)
          replace HD := hide (HD.out.bel hb2)
          have HE := hide hec
          replace hbr := hbr.trans (hb2.mono hsz)
          replace hsr : w1.heap.size ≤ w2.heap.size := by omega
          clear ho hrd hec hb2 hsz hbe
          go_wp2_with fail
          clear hs2
          generalize wr = W5 at *
          go_loopw [53] (fun i wr => ∃ jq : Nat, jq ≤ 24 ∧ i = .int .i64 jq ∧ Hid (ClM w.heap.size [.string nm, .int .i64 x, .int .i64 y, .int .i64 ha, .int .i64 j, .int .i64 b, .slice Ai ni ci] [.string nm2, .int .i64 x2, .int .i64 y2, .int .i64 hb, .int .i64 j2, .int .i64 b2, .slice Aj nj cj] (bm0 || anyD (fun e => bbN (⟨nm, x, y, ha, j, b, ch⟩ : Crn) (⟨nm2, x2, y2, hb, j2, b2, ch2⟩ : Crn) D (k : Int) e) jq) fi1 se1 hb wr) ∧ Hid (DirC bd od wr) ∧ Hid (DirC be oe wr) ∧ Below w.heap.size w wr ∧ w1.heap.size ≤ wr.heap.size) (fun i _ => 24 - (intOf i).toNat)
          case atStart => exact ⟨0, by omega, rfl, by simpa [anyD] using HM, HD, HE, hbr, hsr⟩
          case round =>
            clear HM HD HE hbr hsr
            obtain ⟨j', hj, rfl, HM, HD, HE, hbr, hsr⟩ := hrel
            by_cases hlj : j' < 24
            · have he0 : (0 : Int) ≤ (j' : Int) := by omega
              have he1 : (j' : Int) ≤ 23 := by omega
              have zj1 : (j' : Int) < 24 := by omega
              obtain ⟨⟨t1, t2, t3, t4⟩, hpe⟩ : ∃ p, bmI (⟨nm2, x2, y2, hb, j2, b2, ch2⟩ : Crn) (j' : Int) = p := ⟨_, rfl⟩
              have HCOE := hide (show CoS t1 t2 t3 t4 by have := bmI_co KB.out (j' : Int); rw [hpe] at this; exact this)
              obtain ⟨r3, hr3⟩ : ∃ r, bbN (⟨nm, x, y, ha, j, b, ch⟩ : Crn) (⟨nm2, x2, y2, hb, j2, b2, ch2⟩ : Crn) D (k : Int) (j' : Int) = r := ⟨_, rfl⟩
              have HNE := hide (show nrB p1 p2 p3 p4 t1 t2 t3 t4 D = r3 by rw [← hr3]; unfold bbN nrQ; rw [HPA.out, hpe])
              have HPE := hide hpe
              have HR3 := hide hr3
              obtain ⟨bm1, hbm1⟩ : ∃ z, (bm0 || anyD (fun e => bbN (⟨nm, x, y, ha, j, b, ch⟩ : Crn) (⟨nm2, x2, y2, hb, j2, b2, ch2⟩ : Crn) D (k : Int) e) j') = z := ⟨_, rfl⟩
              rw [hbm1] at HM
              have HN1 := hide (show (bm0 || anyD (fun e => bbN (⟨nm, x, y, ha, j, b, ch⟩ : Crn) (⟨nm2, x2, y2, hb, j2, b2, ch2⟩ : Crn) D (k : Int) e) (j' + 1)) = (bm1 || r3) by rw [anyD, ← Bool.or_assoc, hbm1, hr3])
              clear hpe hr3 hbm1
              have cE := HE.out.2 j' hlj
              have hbew := HE.out.1
              go_upto_region 10 with fail
              clear cE
              have hsz := hbr.size
              cases bm1
              · replace HM := hide HM.out.drew
                have cF := HM.out.o 0 _ rfl
                replace HD := hide HD.out.drew
                replace HE := hide HE.out.drew
                refine wp_region_held_drew (S := fun W => Box W w.heap.size [.string nm, .int .i64 x, .int .i64 y, .int .i64 ha, .int .i64 j, .int .i64 b, .slice Ai ni ci] ∧ Box W (w.heap.size + 1) [.string nm2, .int .i64 x2, .int .i64 y2, .int .i64 hb, .int .i64 j2, .int .i64 b2, .slice Aj nj cj]) (by kernel_rfl) (⟨HM.out.a, HM.out.b⟩) (fun hHeld => ?_)
                try simp only [Array.replicate, List.replicate]
                refine wpAnyH_take (i := 0) (v := ?_) rfl (by kernel_rfl) (by kernel_rfl) (by kernel_rfl) (fun _ _ _ h => h) (Or.inl ⟨by rfl, ?_⟩) (by assumption) ?_
                rotate_left
                · (intro w hSw; (try dsimp only at hSw); go_simp; try (with_reducible rfl))
                try simp only [Act.put, List.getElem_toArray, List.getElem_cons_succ, List.getElem_cons_zero, List.setIfInBounds_toArray, List.set_cons_succ, List.set_cons_zero]
                refine wpAnyH_ready (rs := [1]) (by kernel_rfl) (by simp) ?_
                refine AllReadyH.cons rfl (fun KQ hK => ?_) AllReadyH.nil
                go_simp
                refine hK.out _ _ (hHeld) (fun hHeld2 => ?_)
                clear hK KQ hHeld
                have hHeld := hHeld2
                clear hHeld2
                try simp only [Act.put, List.getElem_toArray, List.getElem_cons_succ, List.getElem_cons_zero, List.setIfInBounds_toArray, List.set_cons_succ, List.set_cons_zero]
                refine wpAnyH_take (i := 2) (v := ?_) rfl (by kernel_rfl) (by kernel_rfl) (by kernel_rfl) (fun _ _ _ h => h) (Or.inl ⟨by rfl, ?_⟩) (by assumption) ?_
                rotate_left
                · (intro w hSw; (try dsimp only at hSw); go_simp; try (with_reducible rfl))
                try simp only [Act.put, List.getElem_toArray, List.getElem_cons_succ, List.getElem_cons_zero, List.setIfInBounds_toArray, List.set_cons_succ, List.set_cons_zero]
                refine wpAnyH_take (i := 3) (v := ?_) rfl (by kernel_rfl) (by kernel_rfl) (by kernel_rfl) (fun _ _ _ h => h) (Or.inl ⟨by rfl, ?_⟩) (by assumption) ?_
                rotate_left
                · (intro W9 hSw; have k := hSw.1; have k_0 := k 0 _ rfl; have k_1 := k 1 _ rfl; have k_2 := k 2 _ rfl; have k_3 := k 3 _ rfl; have k_4 := k 4 _ rfl; have k_5 := k 5 _ rfl; have k_6 := k 6 _ rfl; clear hSw k; go_simp; try (with_reducible rfl))
                try simp only [Act.put, List.getElem_toArray, List.getElem_cons_succ, List.getElem_cons_zero, List.setIfInBounds_toArray, List.set_cons_succ, List.set_cons_zero]
                refine wpAnyH_take (i := 4) (v := ?_) rfl (by kernel_rfl) (by kernel_rfl) (by kernel_rfl) (fun _ _ _ h => h) (Or.inl ⟨by rfl, ?_⟩) (by assumption) ?_
                rotate_left
                · (intro w hSw; (try dsimp only at hSw); go_simp; try (with_reducible rfl))
                try simp only [Act.put, List.getElem_toArray, List.getElem_cons_succ, List.getElem_cons_zero, List.setIfInBounds_toArray, List.set_cons_succ, List.set_cons_zero]
                refine wpAnyH_take (i := 6) (v := ?_) rfl (by kernel_rfl) (by kernel_rfl) (by kernel_rfl) (fun _ _ _ h => h) (Or.inl ⟨by rfl, ?_⟩) (by assumption) ?_
                rotate_left
                · (intro W9 hSw; have k := hSw.2; have k_0 := k 0 _ rfl; have k_1 := k 1 _ rfl; have k_2 := k 2 _ rfl; have k_3 := k 3 _ rfl; have k_4 := k 4 _ rfl; have k_5 := k 5 _ rfl; have k_6 := k 6 _ rfl; clear hSw k; go_simp; try (with_reducible rfl))
                try simp only [Act.put, List.getElem_toArray, List.getElem_cons_succ, List.getElem_cons_zero, List.setIfInBounds_toArray, List.set_cons_succ, List.set_cons_zero]
                refine wpAnyH_take (i := 7) (v := ?_) rfl (by kernel_rfl) (by kernel_rfl) (by kernel_rfl) (fun _ _ _ h => h) (Or.inl ⟨by rfl, ?_⟩) (by assumption) ?_
                rotate_left
                · (intro w hSw; (try dsimp only at hSw); go_simp; try (with_reducible rfl))
                try simp only [Act.put, List.getElem_toArray, List.getElem_cons_succ, List.getElem_cons_zero, List.setIfInBounds_toArray, List.set_cons_succ, List.set_cons_zero]
                refine wpAnyH_take (i := 9) (v := ?_) rfl (by kernel_rfl) (by kernel_rfl) (by kernel_rfl) (fun _ _ _ h => h) (Or.inl ⟨by rfl, ?_⟩) (by assumption) ?_
                rotate_left
                · (intro w hSw; (try dsimp only at hSw); go_simp; try (with_reducible rfl))
                try simp only [Act.put, List.getElem_toArray, List.getElem_cons_succ, List.getElem_cons_zero, List.setIfInBounds_toArray, List.set_cons_succ, List.set_cons_zero]
                refine wpAnyH_ready (rs := [5]) (by kernel_rfl) (by simp) ?_
                refine AllReadyH.cons rfl (fun KQ hK => ?_) AllReadyH.nil
                go_simp
                refine (boom_is KA.out hd0 hd1 HPA.out HM.out.t).mono ?_
                rintro e w4 ⟨rfl, hq4⟩
                have hz4 : wr.heap.size ≤ w4.heap.size := hq4.size
                replace HM := hide (HM.out.bel hq4)
                replace HD := hide (HD.out.bel hq4)
                replace HE := hide (HE.out.bel hq4)
                refine hK.out _ _ (⟨HM.out.a, HM.out.b⟩) (fun hHeld2 => ?_)
                clear hK KQ hHeld
                have hHeld := hHeld2
                clear hHeld2
                try simp only [Act.put, List.getElem_toArray, List.getElem_cons_succ, List.getElem_cons_zero, List.setIfInBounds_toArray, List.set_cons_succ, List.set_cons_zero]
                refine wpAnyH_ready (rs := [8]) (by kernel_rfl) (by simp) ?_
                refine AllReadyH.cons rfl (fun KQ hK => ?_) AllReadyH.nil
                go_simp
                refine (boom_is KB.out he0 he1 HPE.out HM.out.t).mono ?_
                rintro e w5 ⟨rfl, hq5⟩
                have hz5 := hq5.size
                replace HM := hide (HM.out.bel hq5)
                replace HD := hide (HD.out.bel hq5)
                replace HE := hide (HE.out.bel hq5)
                refine hK.out _ _ (⟨HM.out.a, HM.out.b⟩) (fun hHeld2 => ?_)
                clear hK KQ hHeld
                have hHeld := hHeld2
                clear hHeld2
                try simp only [Act.put, List.getElem_toArray, List.getElem_cons_succ, List.getElem_cons_zero, List.setIfInBounds_toArray, List.set_cons_succ, List.set_cons_zero]
                refine wpAnyH_ready (rs := [10]) (by kernel_rfl) (by simp) ?_
                refine AllReadyH.cons rfl (fun KQ hK => ?_) AllReadyH.nil
                go_simp
                refine (nearer_is HCOA.out HCOE.out hD0 hD1 HNE.out).mono ?_
                rintro e w6 ⟨rfl, hq6⟩
                have hz6 := hq6.size
                replace HM := hide (HM.out.bel hq6)
                replace HD := hide (HD.out.bel hq6)
                replace HE := hide (HE.out.bel hq6)
                clear cF
                have cF := HM.out.o 0 _ rfl
                have fF := HM.out.f 0
                refine hK.out _ _ (⟨HM.out.a, HM.out.b⟩) (fun hHeld2 => ?_)
                clear hK KQ hHeld
                have hHeld := hHeld2
                clear hHeld2
                try simp only [Act.put, List.getElem_toArray, List.getElem_cons_succ, List.getElem_cons_zero, List.setIfInBounds_toArray, List.set_cons_succ, List.set_cons_zero]
                refine wpAnyH_take (i := 11) (v := ?_) rfl (by kernel_rfl) (by kernel_rfl) (by kernel_rfl) (fun _ _ _ h => h) (Or.inl ⟨by rfl, ?_⟩) (by assumption) ?_
                rotate_left
                · (intro w hSw; (try dsimp only at hSw); go_simp; try (with_reducible rfl))
                try simp only [Act.put, List.getElem_toArray, List.getElem_cons_succ, List.getElem_cons_zero, List.setIfInBounds_toArray, List.set_cons_succ, List.set_cons_zero]
                refine wpAnyH_take (i := 12) (v := ?_) rfl (by kernel_rfl) (by kernel_rfl) (by kernel_rfl) (fun _ _ _ h => h) (Or.inl ⟨by rfl, ?_⟩) (by assumption) ?_
                rotate_left
                · (intro w hSw; (try dsimp only at hSw); go_simp; try (with_reducible rfl))
                try simp only [Act.put, List.getElem_toArray, List.getElem_cons_succ, List.getElem_cons_zero, List.setIfInBounds_toArray, List.set_cons_succ, List.set_cons_zero]
                refine wpAnyH_ready (rs := [13]) (by kernel_rfl) (by simp) ?_
                refine AllReadyH.cons rfl (fun KQ hK => ?_) AllReadyH.nil
                go_simp
                refine hK.out _ _ (⟨(HM.out.put0 r3).a, (HM.out.put0 r3).b⟩) (fun hHeld2 => ?_)
                clear hK KQ hHeld
                have hHeld := hHeld2
                clear hHeld2
                try simp only [Act.put, List.getElem_toArray, List.getElem_cons_succ, List.getElem_cons_zero, List.setIfInBounds_toArray, List.set_cons_succ, List.set_cons_zero]
                refine wpAnyH_done (by kernel_rfl) ?_ _
                have hN := hide (HM.out.put0 r3)
                have hNHD := hide (HD.out.set (a := ⟨w.heap.size + 3, 0, none⟩) (v := .bool r3) (by show w.heap.size + 3 ≠ _; omega))
                have hNHE := hide (HE.out.set (a := ⟨w.heap.size + 3, 0, none⟩) (v := .bool r3) (by show w.heap.size + 3 ≠ _; omega))
                have hB9 : Below w.heap.size w (w6.setCell ⟨w.heap.size + 3, 0, none⟩ (.bool r3)) := (((hbr.drew.trans (hq4.mono (by show w.heap.size ≤ wr.heap.size; omega))).trans (hq5.mono (by omega))).trans (hq6.mono (by omega))).setCell (by show w.heap.size ≤ w.heap.size + 3; omega) _
                have hS9 : w1.heap.size ≤ (w6.setCell ⟨w.heap.size + 3, 0, none⟩ (.bool r3)).heap.size := by simp [World.setCell]; omega
                go_wp2_with fail
                go_roundw
                case rel => (first | exact ⟨j' + 1, by omega, by go_num, by rw [HN1.out]; exact hN, hNHD, hNHE, hB9, hS9⟩ | ((repeat apply Exists.intro); exact ⟨⟨j' + 1, by omega, by go_num, by rw [HN1.out]; exact hN, hNHD, hNHE, hB9, hS9⟩, rfl⟩))
                case measure => simp [intOf]; omega
              · replace HM := hide HM.out.drew
                have cF := HM.out.o 0 _ rfl
                replace HD := hide HD.out.drew
                replace HE := hide HE.out.drew
                have fF := HM.out.f 0
                refine wp_region_held_drew (S := fun W => Box W w.heap.size [.string nm, .int .i64 x, .int .i64 y, .int .i64 ha, .int .i64 j, .int .i64 b, .slice Ai ni ci] ∧ Box W (w.heap.size + 1) [.string nm2, .int .i64 x2, .int .i64 y2, .int .i64 hb, .int .i64 j2, .int .i64 b2, .slice Aj nj cj]) (by kernel_rfl) (⟨HM.out.a, HM.out.b⟩) (fun hHeld => ?_)
                try simp only [Array.replicate, List.replicate]
                refine wpAnyH_take (i := 0) (v := ?_) rfl (by kernel_rfl) (by kernel_rfl) (by kernel_rfl) (fun _ _ _ h => h) (Or.inl ⟨by rfl, ?_⟩) (by assumption) ?_
                rotate_left
                · (intro w hSw; (try dsimp only at hSw); go_simp; try (with_reducible rfl))
                try simp only [Act.put, List.getElem_toArray, List.getElem_cons_succ, List.getElem_cons_zero, List.setIfInBounds_toArray, List.set_cons_succ, List.set_cons_zero]
                refine wpAnyH_ready (rs := [1]) (by kernel_rfl) (by simp) ?_
                refine AllReadyH.cons rfl (fun KQ hK => ?_) AllReadyH.nil
                go_simp
                refine hK.out _ _ (hHeld) (fun hHeld2 => ?_)
                clear hK KQ hHeld
                have hHeld := hHeld2
                clear hHeld2
                try simp only [Act.put, List.getElem_toArray, List.getElem_cons_succ, List.getElem_cons_zero, List.setIfInBounds_toArray, List.set_cons_succ, List.set_cons_zero]
                refine wpAnyH_take (i := 2) (v := ?_) rfl (by kernel_rfl) (by kernel_rfl) (by kernel_rfl) (fun _ _ _ h => h) (Or.inl ⟨by rfl, ?_⟩) (by assumption) ?_
                rotate_left
                · (intro w hSw; (try dsimp only at hSw); go_simp; try (with_reducible rfl))
                try simp only [Act.put, List.getElem_toArray, List.getElem_cons_succ, List.getElem_cons_zero, List.setIfInBounds_toArray, List.set_cons_succ, List.set_cons_zero]
                refine wpAnyH_take (i := 3) (v := undef) rfl (by kernel_rfl) (by kernel_rfl) (by kernel_rfl) (fun _ _ _ h => h) (Or.inr ⟨by rfl, rfl⟩) (by assumption) ?_
                try simp only [Act.put, List.getElem_toArray, List.getElem_cons_succ, List.getElem_cons_zero, List.setIfInBounds_toArray, List.set_cons_succ, List.set_cons_zero]
                refine wpAnyH_take (i := 4) (v := undef) rfl (by kernel_rfl) (by kernel_rfl) (by kernel_rfl) (fun _ _ _ h => h) (Or.inr ⟨by rfl, rfl⟩) (by assumption) ?_
                try simp only [Act.put, List.getElem_toArray, List.getElem_cons_succ, List.getElem_cons_zero, List.setIfInBounds_toArray, List.set_cons_succ, List.set_cons_zero]
                refine wpAnyH_take (i := 5) (v := undef) rfl (by kernel_rfl) (by kernel_rfl) (by kernel_rfl) (fun _ _ _ h => h) (Or.inr ⟨by rfl, rfl⟩) (by assumption) ?_
                try simp only [Act.put, List.getElem_toArray, List.getElem_cons_succ, List.getElem_cons_zero, List.setIfInBounds_toArray, List.set_cons_succ, List.set_cons_zero]
                refine wpAnyH_take (i := 6) (v := undef) rfl (by kernel_rfl) (by kernel_rfl) (by kernel_rfl) (fun _ _ _ h => h) (Or.inr ⟨by rfl, rfl⟩) (by assumption) ?_
                try simp only [Act.put, List.getElem_toArray, List.getElem_cons_succ, List.getElem_cons_zero, List.setIfInBounds_toArray, List.set_cons_succ, List.set_cons_zero]
                refine wpAnyH_take (i := 7) (v := undef) rfl (by kernel_rfl) (by kernel_rfl) (by kernel_rfl) (fun _ _ _ h => h) (Or.inr ⟨by rfl, rfl⟩) (by assumption) ?_
                try simp only [Act.put, List.getElem_toArray, List.getElem_cons_succ, List.getElem_cons_zero, List.setIfInBounds_toArray, List.set_cons_succ, List.set_cons_zero]
                refine wpAnyH_take (i := 8) (v := undef) rfl (by kernel_rfl) (by kernel_rfl) (by kernel_rfl) (fun _ _ _ h => h) (Or.inr ⟨by rfl, rfl⟩) (by assumption) ?_
                try simp only [Act.put, List.getElem_toArray, List.getElem_cons_succ, List.getElem_cons_zero, List.setIfInBounds_toArray, List.set_cons_succ, List.set_cons_zero]
                refine wpAnyH_take (i := 9) (v := undef) rfl (by kernel_rfl) (by kernel_rfl) (by kernel_rfl) (fun _ _ _ h => h) (Or.inr ⟨by rfl, rfl⟩) (by assumption) ?_
                try simp only [Act.put, List.getElem_toArray, List.getElem_cons_succ, List.getElem_cons_zero, List.setIfInBounds_toArray, List.set_cons_succ, List.set_cons_zero]
                refine wpAnyH_take (i := 10) (v := undef) rfl (by kernel_rfl) (by kernel_rfl) (by kernel_rfl) (fun _ _ _ h => h) (Or.inr ⟨by rfl, rfl⟩) (by assumption) ?_
                try simp only [Act.put, List.getElem_toArray, List.getElem_cons_succ, List.getElem_cons_zero, List.setIfInBounds_toArray, List.set_cons_succ, List.set_cons_zero]
                refine wpAnyH_take (i := 11) (v := .bool true) rfl (by kernel_rfl) (by kernel_rfl) (by kernel_rfl) (fun _ _ _ h => h) (Or.inl ⟨by rfl, (by intro w hSw; (try dsimp only at hSw); go_simp)⟩) (by assumption) ?_
                try simp only [Act.put, List.getElem_toArray, List.getElem_cons_succ, List.getElem_cons_zero, List.setIfInBounds_toArray, List.set_cons_succ, List.set_cons_zero]
                refine wpAnyH_take (i := 12) (v := ?_) rfl (by kernel_rfl) (by kernel_rfl) (by kernel_rfl) (fun _ _ _ h => h) (Or.inl ⟨by rfl, ?_⟩) (by assumption) ?_
                rotate_left
                · (intro w hSw; (try dsimp only at hSw); go_simp; try (with_reducible rfl))
                try simp only [Act.put, List.getElem_toArray, List.getElem_cons_succ, List.getElem_cons_zero, List.setIfInBounds_toArray, List.set_cons_succ, List.set_cons_zero]
                refine wpAnyH_ready (rs := [13]) (by kernel_rfl) (by simp) ?_
                refine AllReadyH.cons rfl (fun KQ hK => ?_) AllReadyH.nil
                go_simp
                refine hK.out _ _ (⟨(HM.out.put0 true).a, (HM.out.put0 true).b⟩) (fun hHeld2 => ?_)
                clear hK KQ hHeld
                have hHeld := hHeld2
                clear hHeld2
                try simp only [Act.put, List.getElem_toArray, List.getElem_cons_succ, List.getElem_cons_zero, List.setIfInBounds_toArray, List.set_cons_succ, List.set_cons_zero]
                refine wpAnyH_done (by kernel_rfl) ?_ _
                have hN := hide (HM.out.put0 true)
                have hNHD := hide (HD.out.set (a := ⟨w.heap.size + 3, 0, none⟩) (v := .bool true) (by show w.heap.size + 3 ≠ _; omega))
                have hNHE := hide (HE.out.set (a := ⟨w.heap.size + 3, 0, none⟩) (v := .bool true) (by show w.heap.size + 3 ≠ _; omega))
                have hB9 : Below w.heap.size w ((World.drew wr).setCell ⟨w.heap.size + 3, 0, none⟩ (.bool true)) := hbr.drew.setCell (by show w.heap.size ≤ w.heap.size + 3; omega) _
                have hS9 : w1.heap.size ≤ ((World.drew wr).setCell ⟨w.heap.size + 3, 0, none⟩ (.bool true)).heap.size := by simp [World.setCell]; exact hsr
                go_wp2_with fail
                go_roundw
                case rel => (first | exact ⟨j' + 1, by omega, by go_num, by rw [HN1.out]; exact hN, hNHD, hNHE, hB9, hS9⟩ | ((repeat apply Exists.intro); exact ⟨⟨j' + 1, by omega, by go_num, by rw [HN1.out]; exact hN, hNHD, hNHE, hB9, hS9⟩, rfl⟩))
                case measure => simp [intOf]; omega
            · have hj24 : j' = 24 := by omega
              subst hj24
              have HMN := hide (show ClM w.heap.size [.string nm, .int .i64 x, .int .i64 y, .int .i64 ha, .int .i64 j, .int .i64 b, .slice Ai ni ci] [.string nm2, .int .i64 x2, .int .i64 y2, .int .i64 hb, .int .i64 j2, .int .i64 b2, .slice Aj nj cj] (anyD (fun d => anyD (fun e => bbN (⟨nm, x, y, ha, j, b, ch⟩ : Crn) (⟨nm2, x2, y2, hb, j2, b2, ch2⟩ : Crn) D d e) 24) (k + 1)) (anyD (fun d => bmN (⟨nm, x, y, ha, j, b, ch⟩ : Crn) (⟨nm2, x2, y2, hb, j2, b2, ch2⟩ : Crn) D d) (k + 1)) (anyD (fun d => bmN (⟨nm2, x2, y2, hb, j2, b2, ch2⟩ : Crn) (⟨nm, x, y, ha, j, b, ch⟩ : Crn) D d) (k + 1)) hb wr by
                have e1 : anyD (fun d => anyD (fun e => bbN (⟨nm, x, y, ha, j, b, ch⟩ : Crn) (⟨nm2, x2, y2, hb, j2, b2, ch2⟩ : Crn) D d e) 24) (k + 1) = (bm0 || anyD (fun e => bbN (⟨nm, x, y, ha, j, b, ch⟩ : Crn) (⟨nm2, x2, y2, hb, j2, b2, ch2⟩ : Crn) D (k : Int) e) 24) := by rw [← HBM.out]; rfl
                have e2 : anyD (fun d => bmN (⟨nm, x, y, ha, j, b, ch⟩ : Crn) (⟨nm2, x2, y2, hb, j2, b2, ch2⟩ : Crn) D d) (k + 1) = fi1 := by rw [← HF1.out, ← HFI.out, ← HR1.out]; rfl
                have e3 : anyD (fun d => bmN (⟨nm2, x2, y2, hb, j2, b2, ch2⟩ : Crn) (⟨nm, x, y, ha, j, b, ch⟩ : Crn) D d) (k + 1) = se1 := by rw [← HS1.out, ← HSE.out, ← HR2.out]; rfl
                rw [e1, e2, e3]; exact HM.out)
              go_wp2_with fail
              go_roundw
              case rel => (first | ((repeat apply Exists.intro); exact ⟨⟨k + 1, by omega, by go_num, HMN, HD, hbr, hsr⟩, rfl⟩) | exact ⟨k + 1, by omega, by go_num, HMN, HD, hbr, hsr⟩)
              case measure => simp [intOf]; omega
    · have hk24 : k = 24 := by omega
      subst hk24
      have hc := HC.out
      unfold clN at hc
      injection hc with e1 hc
      injection hc with e2 hc
      injection hc with e3 e4
      rw [e1, e2, e3] at HM
      have hh4 : hb = hh := e4
      have HH := hide hh4
      clear e1 e2 e3 e4 hh4 HC
      have o0 := HM.out.o 0 _ rfl
      have o1 := HM.out.o 1 _ rfl
      have o2 := HM.out.o 2 _ rfl
      have o3 := HM.out.o 3 _ rfl
      have r0 := HM.out.2.2.1 0 _ rfl
      have r1 := HM.out.2.2.1 1 _ rfl
      have r2 := HM.out.2.2.1 2 _ rfl
      have r3 := HM.out.2.2.1 3 _ rfl
      have f0 := HM.out.2.2.2.1 0
      have f1 := HM.out.2.2.2.1 1
      have f2 := HM.out.2.2.2.1 2
      have f3 := HM.out.2.2.2.1 3
      go_wp2_with fail
      refine bodyPost_ret (v := .agg #[.bool bm, .bool fi, .bool se, .int .i64 hb]) (by simp [results, Tryz.results19, go_sem, r0, r1, r2, r3]) rfl ⟨by rw [HH.out], ?_⟩
      repeat (with_reducible refine Below.setCell ?_ (by simp; try omega) _)
      exact hbr


end Go.Proofs.YtajjophmngabbaaGreatDoor
