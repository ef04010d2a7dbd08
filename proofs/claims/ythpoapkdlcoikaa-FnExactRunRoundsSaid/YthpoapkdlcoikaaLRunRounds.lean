/-
  FnExactRunRounds: the law answers true at every input, and the input reads behind the call as it read before. No condition.
-/
import Derived.Test.YthpoapkdlcoikaaFrame
import Derived.Test.YthpoapkdlcoikaaFacts
import Derived.WalkKit
import Derived.WalkSpells
import Derived.WalkLawsBesides
import Derived.Deep.RegionWith
import Derived.Deep.DeepCutAuto
import Derived.Test.YthpoapkdlcoikaaOpnSBool
import Derived.Test.YthpoapkdlcoikaaOpnRound
import Derived.Test.YthpoapkdlcoikaaRt
namespace Go.Proofs.Ythpoapkdlcoikaa
open Go.ChangeShapes Go.WideShapes Go.ChangeAt Go.RowKit
namespace fnExactRunRounds
set_option linter.unusedVariables false
set_option linter.unusedSimpArgs false
set_option maxRecDepth 100000 in
set_option maxHeartbeats 20000000 in
theorem walk (w : World) (A0 : Option Addr) (n0 c0 : Nat) (l0 : List (List Bool)) (hm0 : n0 ≤ maxLen) (hr0 : RdSS w 0 w.heap.size A0 n0 (rrBool l0)) (hw0 : ∀ r ∈ l0, ∀ p ∈ r, True) (x1_0 x1_1 : Int) (b1_0 : (Lit.int .i64 x1_0).wf = true) (b1_1 : (Lit.int .i64 x1_1).wf = true) (x2_0 x2_1 x2_2 x2_3 x2_4 : Int) (b2_0 : (Lit.int .i64 x2_0).wf = true) (b2_1 : (Lit.int .i64 x2_1).wf = true) (b2_2 : (Lit.int .i64 x2_2).wf = true) (b2_3 : (Lit.int .i64 x2_3).wf = true) (b2_4 : (Lit.int .i64 x2_4).wf = true) (x3_0 x3_1 x3_2 x3_3 x3_4 : Int) (b3_0 : (Lit.int .i64 x3_0).wf = true) (b3_1 : (Lit.int .i64 x3_1).wf = true) (b3_2 : (Lit.int .i64 x3_2).wf = true) (b3_3 : (Lit.int .i64 x3_3).wf = true) (b3_4 : (Lit.int .i64 x3_4).wf = true) (A4 : Option Addr) (n4 c4 : Nat) (l4 : List (Bool × Bool)) (hl4 : l4.length = n4) (hm4 : n4 ≤ maxLen) (hr4 : Rd w 0 w.heap.size 2 A4 n4 (rRound l4)) (hw4 : ∀ p ∈ l4, True) :
    Calls Try.prog 11 #[.slice A0 n0 c0, .agg #[.int .i64 x1_0, .int .i64 x1_1], .agg #[.int .i64 x2_0, .int .i64 x2_1, .int .i64 x2_2, .int .i64 x2_3, .int .i64 x2_4], .agg #[.int .i64 x3_0, .int .i64 x3_1, .int .i64 x3_2, .int .i64 x3_3, .int .i64 x3_4], .slice A4 n4 c4] w fun e w' => e = .returned (.bool true) ∧ Below w.heap.size w w' := by
  by_cases hq : (n0 : Int) + (tot (rrBool l0) n0 : Nat) ≤ 1048576
  · skip
    by_cases hq4 : (n4 : Int) ≤ 1048576 - n0 - (tot (rrBool l0) n0 : Nat)
    · skip
      obtain ⟨⟨⟨⟨p0, p1, p2, p3, p4⟩, ⟨q0, q1, q2, q3, q4⟩⟩, bd, cc⟩, hrp⟩ : ∃ rp, rsV l0 x1_0 x1_1 (x2_0, x2_1, x2_2, x2_3, x2_4) (x3_0, x3_1, x3_2, x3_3, x3_4) l4 = rp := ⟨_, rfl⟩
      have HP := hide hrp
      clear hrp
      have hn : n0 ≤ 1048576 := by omega
      have hn4 : n4 ≤ 1048576 := by omega
      have hl0 : l0.length = n0 := by have := hr0.length; rw [rrBool_len] at this; exact this
      have hrow0 : ∀ r ∈ l0, r.length ≤ 1048576 := fun r hr => by have := rows_small (f := rrBool) (fun k => by rw [rrBool_at, rBool_len1]) hr0.length hl0 hq r hr; omega
      have HROW := hide hrow0
      clear hm0 hw0 hw4 hm4 hrow0 hl0
      go_enter Try.func11, Try.ntmps11
      go_wp2_with fail
      obtain ⟨W0, hW0⟩ : ∃ W0 : World, W0 = (((w.alloc (.cells #[.int .i64 x1_0, .int .i64 x1_1] 45)).alloc (.cells #[.int .i64 x2_0, .int .i64 x2_1, .int .i64 x2_2, .int .i64 x2_3, .int .i64 x2_4] 47)).alloc (.cells #[.int .i64 x3_0, .int .i64 x3_1, .int .i64 x3_2, .int .i64 x3_3, .int .i64 x3_4] 47)) := ⟨_, rfl⟩
      rw [← hW0]
      have hk1 : Box W0 (w.heap.size) [.int .i64 x1_0, .int .i64 x1_1] := by rw [hW0]; exact ((box_at _ _ _ _ (by simp)).alloc (by first | (simp; done) | (simp; omega)) _).alloc (by first | (simp; done) | (simp; omega)) _
      have hk2 : Box W0 (w.heap.size + 1) [.int .i64 x2_0, .int .i64 x2_1, .int .i64 x2_2, .int .i64 x2_3, .int .i64 x2_4] := by rw [hW0]; exact (box_at _ _ _ _ (by simp)).alloc (by first | (simp; done) | (simp; omega)) _
      have hk3 : Box W0 (w.heap.size + 2) [.int .i64 x3_0, .int .i64 x3_1, .int .i64 x3_2, .int .i64 x3_3, .int .i64 x3_4] := by rw [hW0]; exact box_at _ _ _ _ (by simp)
      have hB : Below w.heap.size w W0 := by rw [hW0]; exact (by repeat (first | exact Below.refl _ _ | refine Below.drew ?_ | refine Below.alloc ?_ (by first | (simp; done) | (simp; omega)) _))
      have hs0 : w.heap.size + 3 ≤ W0.heap.size := by rw [hW0]; first | (simp; done) | (simp; omega)
      clear hW0
      replace hr0 := hr0.below hB (Nat.le_refl _)
      replace hr4 := hr4.below hB (Nat.le_refl _)
      go_wp2_with fail
      refine (szBoolSS_ok A0 n0 c0 0 w.heap.size l0 _ hq (by omega) _ hr0).mono ?_
      rintro e w' ⟨rfl, rfl⟩
      go_wp2_with fail
      refine (szRoundS_ok A4 n4 c4 _ (by omega) (by omega) _).mono ?_
      rintro e w' ⟨rfl, rfl⟩
      go_upto_region 8 with fail
      go_cut [12, 13, 14, 15] (fun s12 s13 s14 s15 wx => s14 = .int .i64 bd ∧ s15 = .int .i64 cc ∧ ∃ g h : Nat, s12 = .pointer (some ⟨g, 0, none⟩) ∧ s13 = .pointer (some ⟨h, 0, none⟩) ∧ Box wx g [.int .i64 p0, .int .i64 p1, .int .i64 p2, .int .i64 p3, .int .i64 p4] ∧ Box wx h [.int .i64 q0, .int .i64 q1, .int .i64 q2, .int .i64 q3, .int .i64 q4] ∧ W0.heap.size ≤ g ∧ g < wx.heap.size ∧ W0.heap.size ≤ h ∧ h < wx.heap.size ∧ Below W0.heap.size W0 wx)
      case first =>
        have hp : w.heap.size + 3 ≤ W0.heap.size := by omega
        have hSb : ∀ V N : World, w.heap.size + 3 ≤ V.heap.size → Below V.heap.size V N → (Box V (w.heap.size) [.int .i64 x1_0, .int .i64 x1_1] ∧ Box V (w.heap.size + 1) [.int .i64 x2_0, .int .i64 x2_1, .int .i64 x2_2, .int .i64 x2_3, .int .i64 x2_4] ∧ Box V (w.heap.size + 2) [.int .i64 x3_0, .int .i64 x3_1, .int .i64 x3_2, .int .i64 x3_3, .int .i64 x3_4]) → (Box N (w.heap.size) [.int .i64 x1_0, .int .i64 x1_1] ∧ Box N (w.heap.size + 1) [.int .i64 x2_0, .int .i64 x2_1, .int .i64 x2_2, .int .i64 x2_3, .int .i64 x2_4] ∧ Box N (w.heap.size + 2) [.int .i64 x3_0, .int .i64 x3_1, .int .i64 x3_2, .int .i64 x3_3, .int .i64 x3_4]) := fun V N hv hb ⟨q0, q1, q2⟩ => ⟨q0.below hb (by omega), q1.below hb (by omega), q2.below hb (by omega)⟩
        have hSs : ∀ (V N : World) (g : Nat) (a b c d e : Value), N = (((((V.setCell ⟨g, 0, none⟩ a).setCell ⟨g, 1, none⟩ b).setCell ⟨g, 2, none⟩ c).setCell ⟨g, 3, none⟩ d).setCell ⟨g, 4, none⟩ e) → w.heap.size + 3 ≤ g → (Box V (w.heap.size) [.int .i64 x1_0, .int .i64 x1_1] ∧ Box V (w.heap.size + 1) [.int .i64 x2_0, .int .i64 x2_1, .int .i64 x2_2, .int .i64 x2_3, .int .i64 x2_4] ∧ Box V (w.heap.size + 2) [.int .i64 x3_0, .int .i64 x3_1, .int .i64 x3_2, .int .i64 x3_3, .int .i64 x3_4]) → (Box N (w.heap.size) [.int .i64 x1_0, .int .i64 x1_1] ∧ Box N (w.heap.size + 1) [.int .i64 x2_0, .int .i64 x2_1, .int .i64 x2_2, .int .i64 x2_3, .int .i64 x2_4] ∧ Box N (w.heap.size + 2) [.int .i64 x3_0, .int .i64 x3_1, .int .i64 x3_2, .int .i64 x3_3, .int .i64 x3_4]) := fun V N g a b c d e hN hg ⟨q0, q1, q2⟩ => by subst hN; exact ⟨far5B q0 (by omega), far5B q1 (by omega), far5B q2 (by omega)⟩
        refine wp_region_held_drew (S := fun W : World => Box W (w.heap.size) [.int .i64 x1_0, .int .i64 x1_1] ∧ Box W (w.heap.size + 1) [.int .i64 x2_0, .int .i64 x2_1, .int .i64 x2_2, .int .i64 x2_3, .int .i64 x2_4] ∧ Box W (w.heap.size + 2) [.int .i64 x3_0, .int .i64 x3_1, .int .i64 x3_2, .int .i64 x3_3, .int .i64 x3_4]) (by kernel_rfl) (⟨hk1, hk2, hk3⟩) (fun hHeld => ?_)
        try simp only [Array.replicate, List.replicate]
        refine wpAnyH_take (i := 0) (v := ?_) rfl (by kernel_rfl) (by kernel_rfl) (by kernel_rfl) (fun _ _ _ h => h) (Or.inl ⟨by rfl, ?_⟩) (by assumption) ?_
        rotate_left
        · (intro W9 hSw; clear hSw; go_simp; try (with_reducible rfl))
        try simp only [Act.put, y1, y2, y3, y4, y5, y6]
        refine wpAnyH_take (i := 2) (v := ?_) rfl (by kernel_rfl) (by kernel_rfl) (by kernel_rfl) (fun _ _ _ h => h) (Or.inl ⟨by rfl, ?_⟩) (by assumption) ?_
        rotate_left
        · (intro W9 hSw; have k0 := hSw.1; have k0_0 := k0 0 _ rfl; have k0_1 := k0 1 _ rfl; clear hSw k0; go_simp; try (with_reducible rfl))
        try simp only [Act.put, y1, y2, y3, y4, y5, y6]
        refine wpAnyH_take (i := 4) (v := ?_) rfl (by kernel_rfl) (by kernel_rfl) (by kernel_rfl) (fun _ _ _ h => h) (Or.inl ⟨by rfl, ?_⟩) (by assumption) ?_
        rotate_left
        · (intro W9 hSw; have k1 := hSw.2.1; have k1_0 := k1 0 _ rfl; have k1_1 := k1 1 _ rfl; have k1_2 := k1 2 _ rfl; have k1_3 := k1 3 _ rfl; have k1_4 := k1 4 _ rfl; clear hSw k1; go_simp; try (with_reducible rfl))
        try simp only [Act.put, y1, y2, y3, y4, y5, y6]
        refine wpAnyH_take (i := 6) (v := ?_) rfl (by kernel_rfl) (by kernel_rfl) (by kernel_rfl) (fun _ _ _ h => h) (Or.inl ⟨by rfl, ?_⟩) (by assumption) ?_
        rotate_left
        · (intro W9 hSw; have k2 := hSw.2.2; have k2_0 := k2 0 _ rfl; have k2_1 := k2 1 _ rfl; have k2_2 := k2 2 _ rfl; have k2_3 := k2 3 _ rfl; have k2_4 := k2 4 _ rfl; clear hSw k2; go_simp; try (with_reducible rfl))
        try simp only [Act.put, y1, y2, y3, y4, y5, y6]
        refine wpAnyH_take (i := 8) (v := ?_) rfl (by kernel_rfl) (by kernel_rfl) (by kernel_rfl) (fun _ _ _ h => h) (Or.inl ⟨by rfl, ?_⟩) (by assumption) ?_
        rotate_left
        · (intro W9 hSw; clear hSw; go_simp; try (with_reducible rfl))
        try simp only [Act.put, y1, y2, y3, y4, y5, y6]
        refine wpAnyH_cap (fun ops' Q' a' hops hQ ha => ?_)
        have L6_22 : Hid (∀ (W : World) (Aa : Option Addr) (ca : Nat) (Ax : Option Addr) (cx : Nat) (g0 : Nat) (g1 : Nat), (Box W g0 [.int .i64 p0, .int .i64 p1, .int .i64 p2, .int .i64 p3, .int .i64 p4]) → (g0 < W.heap.size) → (W0.heap.size ≤ g0) → (Box W g1 [.int .i64 q0, .int .i64 q1, .int .i64 q2, .int .i64 q3, .int .i64 q4]) → (g1 < W.heap.size) → (W0.heap.size ≤ g1) → (g0 ≠ g1) → (Box W (w.heap.size) [.int .i64 x1_0, .int .i64 x1_1] ∧ Box W (w.heap.size + 1) [.int .i64 x2_0, .int .i64 x2_1, .int .i64 x2_2, .int .i64 x2_3, .int .i64 x2_4] ∧ Box W (w.heap.size + 2) [.int .i64 x3_0, .int .i64 x3_1, .int .i64 x3_2, .int .i64 x3_3, .int .i64 x3_4]) → (W0.heap.size ≤ W.heap.size) → (Below W0.heap.size W0 W) → wpAnyH Try.prog .any ops' Q' (fun W : World => Box W (w.heap.size) [.int .i64 x1_0, .int .i64 x1_1] ∧ Box W (w.heap.size + 1) [.int .i64 x2_0, .int .i64 x2_1, .int .i64 x2_2, .int .i64 x2_3, .int .i64 x2_4] ∧ Box W (w.heap.size + 2) [.int .i64 x3_0, .int .i64 x3_1, .int .i64 x3_2, .int .i64 x3_3, .int .i64 x3_4]) 2 #[true, true, true, true, true, true, true, true, true, true, true, true, true, true, true, true, true, true, true, true, false, false] (Act.put (Act.put (Act.put (Act.put (Act.put (Act.put (Act.put (Act.put (Act.put (Act.put (Act.put (Act.put (Act.put a' (some 34) (.slice Aa n0 ca)) (some 36) (.agg #[.int .i64 x1_0, .int .i64 x1_1])) (some 38) (.agg #[.int .i64 x2_0, .int .i64 x2_1, .int .i64 x2_2, .int .i64 x2_3, .int .i64 x2_4])) (some 40) (.agg #[.int .i64 x3_0, .int .i64 x3_1, .int .i64 x3_2, .int .i64 x3_3, .int .i64 x3_4])) (some 42) (.slice Ax n4 cx)) (some 43) (.tuple #[.agg #[.int .i64 p0, .int .i64 p1, .int .i64 p2, .int .i64 p3, .int .i64 p4], .agg #[.int .i64 q0, .int .i64 q1, .int .i64 q2, .int .i64 q3, .int .i64 q4], .int .i64 bd, .int .i64 cc])) (some 32) (.tuple #[.agg #[.int .i64 p0, .int .i64 p1, .int .i64 p2, .int .i64 p3, .int .i64 p4], .agg #[.int .i64 q0, .int .i64 q1, .int .i64 q2, .int .i64 q3, .int .i64 q4], .int .i64 bd, .int .i64 cc])) (some 44) (.agg #[.int .i64 p0, .int .i64 p1, .int .i64 p2, .int .i64 p3, .int .i64 p4])) (some 45) (.agg #[.int .i64 q0, .int .i64 q1, .int .i64 q2, .int .i64 q3, .int .i64 q4])) (some 46) (.int .i64 bd)) (some 47) (.int .i64 cc)) (some 12) (.pointer (some ⟨g0, 0, none⟩))) (some 13) (.pointer (some ⟨g1, 0, none⟩))) W) := by
         refine hide ?_
         intro W Aa ca Ax cx g0 g1 bg0 bl0 bs0 bg1 bl1 bs1 bn hS hs hC
         rw [hops.out, hQ.out, ha.out]
         try simp only [Act.put, y1, y2, y3, y4, y5, y6]
         have hq : w.heap.size + 3 ≤ W.heap.size := Nat.le_trans hp hs
         have hHeld := hS
         refine wpAnyH_take (i := 20) (v := ?_) rfl (by kernel_rfl) (by kernel_rfl) (by kernel_rfl) (fun _ _ _ h => h) (Or.inl ⟨by rfl, ?_⟩) (by assumption) ?_
         rotate_left
         · (intro W9 hSw; clear hSw; go_simp; try (with_reducible rfl))
         try simp only [Act.put, y1, y2, y3, y4, y5, y6]
         refine wpAnyH_take (i := 21) (v := ?_) rfl (by kernel_rfl) (by kernel_rfl) (by kernel_rfl) (fun _ _ _ h => h) (Or.inl ⟨by rfl, ?_⟩) (by assumption) ?_
         rotate_left
         · (intro W9 hSw; clear hSw; go_simp; try (with_reducible rfl))
         try simp only [Act.put, y1, y2, y3, y4, y5, y6]
         refine wpAnyH_done (by kernel_rfl) ?_ _
         go_wp2_with fail
         go_meet
         exact ⟨rfl, rfl, _, _, rfl, rfl, bg0, bg1, bs0, bl0, bs1, bl1, hC⟩
        have L6_21 : Hid (∀ (W : World) (Aa : Option Addr) (ca : Nat) (Ax : Option Addr) (cx : Nat) (g0 : Nat) (g1 : Nat), (Box W g0 [.int .i64 p0, .int .i64 p1, .int .i64 p2, .int .i64 p3, .int .i64 p4]) → (g0 < W.heap.size) → (W0.heap.size ≤ g0) → (Box W g1 [.int .i64 0, .int .i64 0, .int .i64 0, .int .i64 0, .int .i64 0]) → (Fz W g1) → (g1 < W.heap.size) → (W0.heap.size ≤ g1) → (g0 ≠ g1) → (Box W (w.heap.size) [.int .i64 x1_0, .int .i64 x1_1] ∧ Box W (w.heap.size + 1) [.int .i64 x2_0, .int .i64 x2_1, .int .i64 x2_2, .int .i64 x2_3, .int .i64 x2_4] ∧ Box W (w.heap.size + 2) [.int .i64 x3_0, .int .i64 x3_1, .int .i64 x3_2, .int .i64 x3_3, .int .i64 x3_4]) → (W0.heap.size ≤ W.heap.size) → (Below W0.heap.size W0 W) → wpAnyH Try.prog .any ops' Q' (fun W : World => Box W (w.heap.size) [.int .i64 x1_0, .int .i64 x1_1] ∧ Box W (w.heap.size + 1) [.int .i64 x2_0, .int .i64 x2_1, .int .i64 x2_2, .int .i64 x2_3, .int .i64 x2_4] ∧ Box W (w.heap.size + 2) [.int .i64 x3_0, .int .i64 x3_1, .int .i64 x3_2, .int .i64 x3_3, .int .i64 x3_4]) 3 #[true, true, true, true, true, true, true, true, true, true, true, true, true, true, true, true, true, true, true, false, false, false] (Act.put (Act.put (Act.put (Act.put (Act.put (Act.put (Act.put (Act.put (Act.put (Act.put (Act.put (Act.put (Act.put a' (some 34) (.slice Aa n0 ca)) (some 36) (.agg #[.int .i64 x1_0, .int .i64 x1_1])) (some 38) (.agg #[.int .i64 x2_0, .int .i64 x2_1, .int .i64 x2_2, .int .i64 x2_3, .int .i64 x2_4])) (some 40) (.agg #[.int .i64 x3_0, .int .i64 x3_1, .int .i64 x3_2, .int .i64 x3_3, .int .i64 x3_4])) (some 42) (.slice Ax n4 cx)) (some 43) (.tuple #[.agg #[.int .i64 p0, .int .i64 p1, .int .i64 p2, .int .i64 p3, .int .i64 p4], .agg #[.int .i64 q0, .int .i64 q1, .int .i64 q2, .int .i64 q3, .int .i64 q4], .int .i64 bd, .int .i64 cc])) (some 32) (.tuple #[.agg #[.int .i64 p0, .int .i64 p1, .int .i64 p2, .int .i64 p3, .int .i64 p4], .agg #[.int .i64 q0, .int .i64 q1, .int .i64 q2, .int .i64 q3, .int .i64 q4], .int .i64 bd, .int .i64 cc])) (some 44) (.agg #[.int .i64 p0, .int .i64 p1, .int .i64 p2, .int .i64 p3, .int .i64 p4])) (some 45) (.agg #[.int .i64 q0, .int .i64 q1, .int .i64 q2, .int .i64 q3, .int .i64 q4])) (some 46) (.int .i64 bd)) (some 47) (.int .i64 cc)) (some 12) (.pointer (some ⟨g0, 0, none⟩))) (some 13) (.pointer (some ⟨g1, 0, none⟩))) W) := by
         refine hide ?_
         intro W Aa ca Ax cx g0 g1 bg0 bl0 bs0 bg1 bz1 bl1 bs1 bn hS hs hC
         rw [hops.out, hQ.out, ha.out]
         try simp only [Act.put, y1, y2, y3, y4, y5, y6]
         have hq : w.heap.size + 3 ≤ W.heap.size := Nat.le_trans hp hs
         have lg1_0 := bg1 0 _ rfl; have lz1_0 := bz1 0
         have lg1_1 := bg1 1 _ rfl; have lz1_1 := bz1 1
         have lg1_2 := bg1 2 _ rfl; have lz1_2 := bz1 2
         have lg1_3 := bg1 3 _ rfl; have lz1_3 := bz1 3
         have lg1_4 := bg1 4 _ rfl; have lz1_4 := bz1 4
         refine wpAnyH_ready (rs := [19]) (by kernel_rfl) (by simp) ?_
         refine AllReadyH.cons rfl (fun K hK => ?_) (AllReadyH.nil)
         · go_simp
           obtain ⟨V1, hN⟩ : ∃ V : World, V = (World.setCell (World.setCell (World.setCell (World.setCell (World.setCell W ⟨g1, 0, none⟩ (.int .i64 q0)) ⟨g1, 1, none⟩ (.int .i64 q1)) ⟨g1, 2, none⟩ (.int .i64 q2)) ⟨g1, 3, none⟩ (.int .i64 q3)) ⟨g1, 4, none⟩ (.int .i64 q4)) := ⟨_, rfl⟩
           rw [← hN]
           replace hS := hSs _ _ _ _ _ _ _ _ hN (Nat.le_trans hp bs1) hS
           replace bg1 : Box V1 g1 [.int .i64 q0, .int .i64 q1, .int .i64 q2, .int .i64 q3, .int .i64 q4] := by rw [hN]; exact put5 bg1 rfl
           have hsz : V1.heap.size = W.heap.size := by rw [hN]; exact size5
           replace bl1 : g1 < V1.heap.size := by rw [hsz]; exact bl1
           replace bg0 : Box V1 g0 [.int .i64 p0, .int .i64 p1, .int .i64 p2, .int .i64 p3, .int .i64 p4] := by rw [hN]; exact far5B bg0 (by omega)
           replace bl0 : g0 < V1.heap.size := by rw [hsz]; exact bl0
           replace hC : Below W0.heap.size W0 V1 := by rw [hN]; exact below5 bs1 hC
           replace hs : W0.heap.size ≤ V1.heap.size := by rw [hsz]; exact hs
           clear hN hsz
           refine hK.out _ _ hS (fun hHeld => ?_)
           clear hK K
           try simp only [Act.put, y1, y2, y3, y4, y5, y6]
           clear hHeld
           have h := L6_22.out V1 Aa ca Ax cx g0 g1 bg0 bl0 bs0 bg1 bl1 bs1 bn hS hs hC
           rw [hops.out, hQ.out, ha.out] at h
           try simp only [Act.put, y1, y2, y3, y4, y5, y6] at h
           exact h
        have L6_11 : Hid (∀ (W : World) (Aa : Option Addr) (ca : Nat) (Ax : Option Addr) (cx : Nat) (g0 : Nat) (g1 : Nat), (Box W g0 [.int .i64 0, .int .i64 0, .int .i64 0, .int .i64 0, .int .i64 0]) → (Fz W g0) → (g0 < W.heap.size) → (W0.heap.size ≤ g0) → (Box W g1 [.int .i64 0, .int .i64 0, .int .i64 0, .int .i64 0, .int .i64 0]) → (Fz W g1) → (g1 < W.heap.size) → (W0.heap.size ≤ g1) → (g0 ≠ g1) → (Box W (w.heap.size) [.int .i64 x1_0, .int .i64 x1_1] ∧ Box W (w.heap.size + 1) [.int .i64 x2_0, .int .i64 x2_1, .int .i64 x2_2, .int .i64 x2_3, .int .i64 x2_4] ∧ Box W (w.heap.size + 2) [.int .i64 x3_0, .int .i64 x3_1, .int .i64 x3_2, .int .i64 x3_3, .int .i64 x3_4]) → (W0.heap.size ≤ W.heap.size) → (Below W0.heap.size W0 W) → wpAnyH Try.prog .any ops' Q' (fun W : World => Box W (w.heap.size) [.int .i64 x1_0, .int .i64 x1_1] ∧ Box W (w.heap.size + 1) [.int .i64 x2_0, .int .i64 x2_1, .int .i64 x2_2, .int .i64 x2_3, .int .i64 x2_4] ∧ Box W (w.heap.size + 2) [.int .i64 x3_0, .int .i64 x3_1, .int .i64 x3_2, .int .i64 x3_3, .int .i64 x3_4]) 4 #[true, true, true, true, true, true, true, true, true, true, true, true, true, true, true, true, true, true, false, false, false, false] (Act.put (Act.put (Act.put (Act.put (Act.put (Act.put (Act.put (Act.put (Act.put (Act.put (Act.put (Act.put (Act.put a' (some 34) (.slice Aa n0 ca)) (some 36) (.agg #[.int .i64 x1_0, .int .i64 x1_1])) (some 38) (.agg #[.int .i64 x2_0, .int .i64 x2_1, .int .i64 x2_2, .int .i64 x2_3, .int .i64 x2_4])) (some 40) (.agg #[.int .i64 x3_0, .int .i64 x3_1, .int .i64 x3_2, .int .i64 x3_3, .int .i64 x3_4])) (some 42) (.slice Ax n4 cx)) (some 43) (.tuple #[.agg #[.int .i64 p0, .int .i64 p1, .int .i64 p2, .int .i64 p3, .int .i64 p4], .agg #[.int .i64 q0, .int .i64 q1, .int .i64 q2, .int .i64 q3, .int .i64 q4], .int .i64 bd, .int .i64 cc])) (some 32) (.tuple #[.agg #[.int .i64 p0, .int .i64 p1, .int .i64 p2, .int .i64 p3, .int .i64 p4], .agg #[.int .i64 q0, .int .i64 q1, .int .i64 q2, .int .i64 q3, .int .i64 q4], .int .i64 bd, .int .i64 cc])) (some 44) (.agg #[.int .i64 p0, .int .i64 p1, .int .i64 p2, .int .i64 p3, .int .i64 p4])) (some 45) (.agg #[.int .i64 q0, .int .i64 q1, .int .i64 q2, .int .i64 q3, .int .i64 q4])) (some 46) (.int .i64 bd)) (some 47) (.int .i64 cc)) (some 12) (.pointer (some ⟨g0, 0, none⟩))) (some 13) (.pointer (some ⟨g1, 0, none⟩))) W) := by
         refine hide ?_
         intro W Aa ca Ax cx g0 g1 bg0 bz0 bl0 bs0 bg1 bz1 bl1 bs1 bn hS hs hC
         rw [hops.out, hQ.out, ha.out]
         try simp only [Act.put, y1, y2, y3, y4, y5, y6]
         have hq : w.heap.size + 3 ≤ W.heap.size := Nat.le_trans hp hs
         have lg0_0 := bg0 0 _ rfl; have lz0_0 := bz0 0
         have lg0_1 := bg0 1 _ rfl; have lz0_1 := bz0 1
         have lg0_2 := bg0 2 _ rfl; have lz0_2 := bz0 2
         have lg0_3 := bg0 3 _ rfl; have lz0_3 := bz0 3
         have lg0_4 := bg0 4 _ rfl; have lz0_4 := bz0 4
         refine wpAnyH_ready (rs := [18]) (by kernel_rfl) (by simp) ?_
         refine AllReadyH.cons rfl (fun K hK => ?_) (AllReadyH.nil)
         · go_simp
           obtain ⟨V1, hN⟩ : ∃ V : World, V = (World.setCell (World.setCell (World.setCell (World.setCell (World.setCell W ⟨g0, 0, none⟩ (.int .i64 p0)) ⟨g0, 1, none⟩ (.int .i64 p1)) ⟨g0, 2, none⟩ (.int .i64 p2)) ⟨g0, 3, none⟩ (.int .i64 p3)) ⟨g0, 4, none⟩ (.int .i64 p4)) := ⟨_, rfl⟩
           rw [← hN]
           replace hS := hSs _ _ _ _ _ _ _ _ hN (Nat.le_trans hp bs0) hS
           replace bg0 : Box V1 g0 [.int .i64 p0, .int .i64 p1, .int .i64 p2, .int .i64 p3, .int .i64 p4] := by rw [hN]; exact put5 bg0 rfl
           have hsz : V1.heap.size = W.heap.size := by rw [hN]; exact size5
           replace bl0 : g0 < V1.heap.size := by rw [hsz]; exact bl0
           replace bg1 : Box V1 g1 [.int .i64 0, .int .i64 0, .int .i64 0, .int .i64 0, .int .i64 0] := by rw [hN]; exact far5B bg1 (by omega)
           replace bz1 : Fz V1 g1 := by rw [hN]; exact ((((bz1.set _ _).set _ _).set _ _).set _ _).set _ _
           replace bl1 : g1 < V1.heap.size := by rw [hsz]; exact bl1
           replace hC : Below W0.heap.size W0 V1 := by rw [hN]; exact below5 bs0 hC
           replace hs : W0.heap.size ≤ V1.heap.size := by rw [hsz]; exact hs
           clear hN hsz
           refine hK.out _ _ hS (fun hHeld => ?_)
           clear hK K
           try simp only [Act.put, y1, y2, y3, y4, y5, y6]
           clear hHeld
           have h := L6_21.out V1 Aa ca Ax cx g0 g1 bg0 bl0 bs0 bg1 bz1 bl1 bs1 bn hS hs hC
           rw [hops.out, hQ.out, ha.out] at h
           try simp only [Act.put, y1, y2, y3, y4, y5, y6] at h
           exact h
        have L6_01 : Hid (∀ (W : World) (Aa : Option Addr) (ca : Nat) (Ax : Option Addr) (cx : Nat) (g1 : Nat), (Box W g1 [.int .i64 0, .int .i64 0, .int .i64 0, .int .i64 0, .int .i64 0]) → (Fz W g1) → (g1 < W.heap.size) → (W0.heap.size ≤ g1) → (Box W (w.heap.size) [.int .i64 x1_0, .int .i64 x1_1] ∧ Box W (w.heap.size + 1) [.int .i64 x2_0, .int .i64 x2_1, .int .i64 x2_2, .int .i64 x2_3, .int .i64 x2_4] ∧ Box W (w.heap.size + 2) [.int .i64 x3_0, .int .i64 x3_1, .int .i64 x3_2, .int .i64 x3_3, .int .i64 x3_4]) → (W0.heap.size ≤ W.heap.size) → (Below W0.heap.size W0 W) → wpAnyH Try.prog .any ops' Q' (fun W : World => Box W (w.heap.size) [.int .i64 x1_0, .int .i64 x1_1] ∧ Box W (w.heap.size + 1) [.int .i64 x2_0, .int .i64 x2_1, .int .i64 x2_2, .int .i64 x2_3, .int .i64 x2_4] ∧ Box W (w.heap.size + 2) [.int .i64 x3_0, .int .i64 x3_1, .int .i64 x3_2, .int .i64 x3_3, .int .i64 x3_4]) 5 #[true, true, true, true, true, true, true, true, true, true, true, true, true, true, true, true, false, true, false, false, false, false] (Act.put (Act.put (Act.put (Act.put (Act.put (Act.put (Act.put (Act.put (Act.put (Act.put (Act.put (Act.put a' (some 34) (.slice Aa n0 ca)) (some 36) (.agg #[.int .i64 x1_0, .int .i64 x1_1])) (some 38) (.agg #[.int .i64 x2_0, .int .i64 x2_1, .int .i64 x2_2, .int .i64 x2_3, .int .i64 x2_4])) (some 40) (.agg #[.int .i64 x3_0, .int .i64 x3_1, .int .i64 x3_2, .int .i64 x3_3, .int .i64 x3_4])) (some 42) (.slice Ax n4 cx)) (some 43) (.tuple #[.agg #[.int .i64 p0, .int .i64 p1, .int .i64 p2, .int .i64 p3, .int .i64 p4], .agg #[.int .i64 q0, .int .i64 q1, .int .i64 q2, .int .i64 q3, .int .i64 q4], .int .i64 bd, .int .i64 cc])) (some 32) (.tuple #[.agg #[.int .i64 p0, .int .i64 p1, .int .i64 p2, .int .i64 p3, .int .i64 p4], .agg #[.int .i64 q0, .int .i64 q1, .int .i64 q2, .int .i64 q3, .int .i64 q4], .int .i64 bd, .int .i64 cc])) (some 44) (.agg #[.int .i64 p0, .int .i64 p1, .int .i64 p2, .int .i64 p3, .int .i64 p4])) (some 45) (.agg #[.int .i64 q0, .int .i64 q1, .int .i64 q2, .int .i64 q3, .int .i64 q4])) (some 46) (.int .i64 bd)) (some 47) (.int .i64 cc)) (some 13) (.pointer (some ⟨g1, 0, none⟩))) W) := by
         refine hide ?_
         intro W Aa ca Ax cx g1 bg1 bz1 bl1 bs1 hS hs hC
         rw [hops.out, hQ.out, ha.out]
         try simp only [Act.put, y1, y2, y3, y4, y5, y6]
         have hq : w.heap.size + 3 ≤ W.heap.size := Nat.le_trans hp hs
         refine wpAnyH_ready (rs := [16]) (by kernel_rfl) (by simp) ?_
         refine AllReadyH.cons rfl (fun K hK => ?_) (AllReadyH.nil)
         · go_simp
           obtain ⟨V1, hN⟩ : ∃ V : World, V = World.alloc W (.cells #[.int .i64 0, .int .i64 0, .int .i64 0, .int .i64 0, .int .i64 0] 50) := ⟨_, rfl⟩
           rw [← hN]
           have hb : Below W.heap.size W V1 := by rw [hN]; exact (Below.refl _ _).alloc (Nat.le_refl _) _
           have bg0 : Box V1 W.heap.size [.int .i64 0, .int .i64 0, .int .i64 0, .int .i64 0, .int .i64 0] := by rw [hN]; exact box_new W #[.int .i64 0, .int .i64 0, .int .i64 0, .int .i64 0, .int .i64 0] 50
           have bz0 : Fz V1 W.heap.size := by rw [hN]; exact fz_at W #[.int .i64 0, .int .i64 0, .int .i64 0, .int .i64 0, .int .i64 0] 50 _ rfl
           have bl0 : W.heap.size < V1.heap.size := by rw [hN]; simp
           have bs0 : W0.heap.size ≤ W.heap.size := hs
           have bn : W.heap.size ≠ g1 := by omega
           clear hN
           replace bg1 := Box.below bg1 hb bl1
           replace bz1 := Fz.below bz1 hb bl1
           replace bl1 := Nat.lt_of_lt_of_le bl1 hb.size
           replace hS := hSb _ _ hq hb hS
           replace hC := hC.trans (hb.mono hs)
           replace hs := Nat.le_trans hs hb.size
           clear hb
           refine hK.out _ _ hS (fun hHeld => ?_)
           clear hK K
           try simp only [Act.put, y1, y2, y3, y4, y5, y6]
           clear hHeld
           have h := L6_11.out V1 Aa ca Ax cx W.heap.size g1 bg0 bz0 bl0 bs0 bg1 bz1 bl1 bs1 bn hS hs hC
           rw [hops.out, hQ.out, ha.out] at h
           try simp only [Act.put, y1, y2, y3, y4, y5, y6] at h
           exact h
        have L6_10 : Hid (∀ (W : World) (Aa : Option Addr) (ca : Nat) (Ax : Option Addr) (cx : Nat) (g0 : Nat), (Box W g0 [.int .i64 0, .int .i64 0, .int .i64 0, .int .i64 0, .int .i64 0]) → (Fz W g0) → (g0 < W.heap.size) → (W0.heap.size ≤ g0) → (Box W (w.heap.size) [.int .i64 x1_0, .int .i64 x1_1] ∧ Box W (w.heap.size + 1) [.int .i64 x2_0, .int .i64 x2_1, .int .i64 x2_2, .int .i64 x2_3, .int .i64 x2_4] ∧ Box W (w.heap.size + 2) [.int .i64 x3_0, .int .i64 x3_1, .int .i64 x3_2, .int .i64 x3_3, .int .i64 x3_4]) → (W0.heap.size ≤ W.heap.size) → (Below W0.heap.size W0 W) → wpAnyH Try.prog .any ops' Q' (fun W : World => Box W (w.heap.size) [.int .i64 x1_0, .int .i64 x1_1] ∧ Box W (w.heap.size + 1) [.int .i64 x2_0, .int .i64 x2_1, .int .i64 x2_2, .int .i64 x2_3, .int .i64 x2_4] ∧ Box W (w.heap.size + 2) [.int .i64 x3_0, .int .i64 x3_1, .int .i64 x3_2, .int .i64 x3_3, .int .i64 x3_4]) 5 #[true, true, true, true, true, true, true, true, true, true, true, true, true, true, true, true, true, false, false, false, false, false] (Act.put (Act.put (Act.put (Act.put (Act.put (Act.put (Act.put (Act.put (Act.put (Act.put (Act.put (Act.put a' (some 34) (.slice Aa n0 ca)) (some 36) (.agg #[.int .i64 x1_0, .int .i64 x1_1])) (some 38) (.agg #[.int .i64 x2_0, .int .i64 x2_1, .int .i64 x2_2, .int .i64 x2_3, .int .i64 x2_4])) (some 40) (.agg #[.int .i64 x3_0, .int .i64 x3_1, .int .i64 x3_2, .int .i64 x3_3, .int .i64 x3_4])) (some 42) (.slice Ax n4 cx)) (some 43) (.tuple #[.agg #[.int .i64 p0, .int .i64 p1, .int .i64 p2, .int .i64 p3, .int .i64 p4], .agg #[.int .i64 q0, .int .i64 q1, .int .i64 q2, .int .i64 q3, .int .i64 q4], .int .i64 bd, .int .i64 cc])) (some 32) (.tuple #[.agg #[.int .i64 p0, .int .i64 p1, .int .i64 p2, .int .i64 p3, .int .i64 p4], .agg #[.int .i64 q0, .int .i64 q1, .int .i64 q2, .int .i64 q3, .int .i64 q4], .int .i64 bd, .int .i64 cc])) (some 44) (.agg #[.int .i64 p0, .int .i64 p1, .int .i64 p2, .int .i64 p3, .int .i64 p4])) (some 45) (.agg #[.int .i64 q0, .int .i64 q1, .int .i64 q2, .int .i64 q3, .int .i64 q4])) (some 46) (.int .i64 bd)) (some 47) (.int .i64 cc)) (some 12) (.pointer (some ⟨g0, 0, none⟩))) W) := by
         refine hide ?_
         intro W Aa ca Ax cx g0 bg0 bz0 bl0 bs0 hS hs hC
         rw [hops.out, hQ.out, ha.out]
         try simp only [Act.put, y1, y2, y3, y4, y5, y6]
         have hq : w.heap.size + 3 ≤ W.heap.size := Nat.le_trans hp hs
         refine wpAnyH_ready (rs := [17]) (by kernel_rfl) (by simp) ?_
         refine AllReadyH.cons rfl (fun K hK => ?_) (AllReadyH.nil)
         · go_simp
           obtain ⟨V1, hN⟩ : ∃ V : World, V = World.alloc W (.cells #[.int .i64 0, .int .i64 0, .int .i64 0, .int .i64 0, .int .i64 0] 50) := ⟨_, rfl⟩
           rw [← hN]
           have hb : Below W.heap.size W V1 := by rw [hN]; exact (Below.refl _ _).alloc (Nat.le_refl _) _
           have bg1 : Box V1 W.heap.size [.int .i64 0, .int .i64 0, .int .i64 0, .int .i64 0, .int .i64 0] := by rw [hN]; exact box_new W #[.int .i64 0, .int .i64 0, .int .i64 0, .int .i64 0, .int .i64 0] 50
           have bz1 : Fz V1 W.heap.size := by rw [hN]; exact fz_at W #[.int .i64 0, .int .i64 0, .int .i64 0, .int .i64 0, .int .i64 0] 50 _ rfl
           have bl1 : W.heap.size < V1.heap.size := by rw [hN]; simp
           have bs1 : W0.heap.size ≤ W.heap.size := hs
           have bn : g0 ≠ W.heap.size := by omega
           clear hN
           replace bg0 := Box.below bg0 hb bl0
           replace bz0 := Fz.below bz0 hb bl0
           replace bl0 := Nat.lt_of_lt_of_le bl0 hb.size
           replace hS := hSb _ _ hq hb hS
           replace hC := hC.trans (hb.mono hs)
           replace hs := Nat.le_trans hs hb.size
           clear hb
           refine hK.out _ _ hS (fun hHeld => ?_)
           clear hK K
           try simp only [Act.put, y1, y2, y3, y4, y5, y6]
           clear hHeld
           have h := L6_11.out V1 Aa ca Ax cx g0 W.heap.size bg0 bz0 bl0 bs0 bg1 bz1 bl1 bs1 bn hS hs hC
           rw [hops.out, hQ.out, ha.out] at h
           try simp only [Act.put, y1, y2, y3, y4, y5, y6] at h
           exact h
        have L6_00 : Hid (∀ (W : World) (Aa : Option Addr) (ca : Nat) (Ax : Option Addr) (cx : Nat), (Box W (w.heap.size) [.int .i64 x1_0, .int .i64 x1_1] ∧ Box W (w.heap.size + 1) [.int .i64 x2_0, .int .i64 x2_1, .int .i64 x2_2, .int .i64 x2_3, .int .i64 x2_4] ∧ Box W (w.heap.size + 2) [.int .i64 x3_0, .int .i64 x3_1, .int .i64 x3_2, .int .i64 x3_3, .int .i64 x3_4]) → (W0.heap.size ≤ W.heap.size) → (Below W0.heap.size W0 W) → wpAnyH Try.prog .any ops' Q' (fun W : World => Box W (w.heap.size) [.int .i64 x1_0, .int .i64 x1_1] ∧ Box W (w.heap.size + 1) [.int .i64 x2_0, .int .i64 x2_1, .int .i64 x2_2, .int .i64 x2_3, .int .i64 x2_4] ∧ Box W (w.heap.size + 2) [.int .i64 x3_0, .int .i64 x3_1, .int .i64 x3_2, .int .i64 x3_3, .int .i64 x3_4]) 6 #[true, true, true, true, true, true, true, true, true, true, true, true, true, true, true, true, false, false, false, false, false, false] (Act.put (Act.put (Act.put (Act.put (Act.put (Act.put (Act.put (Act.put (Act.put (Act.put (Act.put a' (some 34) (.slice Aa n0 ca)) (some 36) (.agg #[.int .i64 x1_0, .int .i64 x1_1])) (some 38) (.agg #[.int .i64 x2_0, .int .i64 x2_1, .int .i64 x2_2, .int .i64 x2_3, .int .i64 x2_4])) (some 40) (.agg #[.int .i64 x3_0, .int .i64 x3_1, .int .i64 x3_2, .int .i64 x3_3, .int .i64 x3_4])) (some 42) (.slice Ax n4 cx)) (some 43) (.tuple #[.agg #[.int .i64 p0, .int .i64 p1, .int .i64 p2, .int .i64 p3, .int .i64 p4], .agg #[.int .i64 q0, .int .i64 q1, .int .i64 q2, .int .i64 q3, .int .i64 q4], .int .i64 bd, .int .i64 cc])) (some 32) (.tuple #[.agg #[.int .i64 p0, .int .i64 p1, .int .i64 p2, .int .i64 p3, .int .i64 p4], .agg #[.int .i64 q0, .int .i64 q1, .int .i64 q2, .int .i64 q3, .int .i64 q4], .int .i64 bd, .int .i64 cc])) (some 44) (.agg #[.int .i64 p0, .int .i64 p1, .int .i64 p2, .int .i64 p3, .int .i64 p4])) (some 45) (.agg #[.int .i64 q0, .int .i64 q1, .int .i64 q2, .int .i64 q3, .int .i64 q4])) (some 46) (.int .i64 bd)) (some 47) (.int .i64 cc)) W) := by
         refine hide ?_
         intro W Aa ca Ax cx hS hs hC
         rw [hops.out, hQ.out, ha.out]
         try simp only [Act.put, y1, y2, y3, y4, y5, y6]
         have hq : w.heap.size + 3 ≤ W.heap.size := Nat.le_trans hp hs
         refine wpAnyH_ready (rs := [16, 17]) (by kernel_rfl) (by simp) ?_
         refine AllReadyH.cons rfl (fun K hK => ?_) (AllReadyH.cons rfl (fun K hK => ?_) (AllReadyH.nil))
         · go_simp
           obtain ⟨V1, hN⟩ : ∃ V : World, V = World.alloc W (.cells #[.int .i64 0, .int .i64 0, .int .i64 0, .int .i64 0, .int .i64 0] 50) := ⟨_, rfl⟩
           rw [← hN]
           have hb : Below W.heap.size W V1 := by rw [hN]; exact (Below.refl _ _).alloc (Nat.le_refl _) _
           have bg0 : Box V1 W.heap.size [.int .i64 0, .int .i64 0, .int .i64 0, .int .i64 0, .int .i64 0] := by rw [hN]; exact box_new W #[.int .i64 0, .int .i64 0, .int .i64 0, .int .i64 0, .int .i64 0] 50
           have bz0 : Fz V1 W.heap.size := by rw [hN]; exact fz_at W #[.int .i64 0, .int .i64 0, .int .i64 0, .int .i64 0, .int .i64 0] 50 _ rfl
           have bl0 : W.heap.size < V1.heap.size := by rw [hN]; simp
           have bs0 : W0.heap.size ≤ W.heap.size := hs
           clear hN
           replace hS := hSb _ _ hq hb hS
           replace hC := hC.trans (hb.mono hs)
           replace hs := Nat.le_trans hs hb.size
           clear hb
           refine hK.out _ _ hS (fun hHeld => ?_)
           clear hK K
           try simp only [Act.put, y1, y2, y3, y4, y5, y6]
           clear hHeld
           have h := L6_10.out V1 Aa ca Ax cx W.heap.size bg0 bz0 bl0 bs0 hS hs hC
           rw [hops.out, hQ.out, ha.out] at h
           try simp only [Act.put, y1, y2, y3, y4, y5, y6] at h
           exact h
         · go_simp
           obtain ⟨V1, hN⟩ : ∃ V : World, V = World.alloc W (.cells #[.int .i64 0, .int .i64 0, .int .i64 0, .int .i64 0, .int .i64 0] 50) := ⟨_, rfl⟩
           rw [← hN]
           have hb : Below W.heap.size W V1 := by rw [hN]; exact (Below.refl _ _).alloc (Nat.le_refl _) _
           have bg1 : Box V1 W.heap.size [.int .i64 0, .int .i64 0, .int .i64 0, .int .i64 0, .int .i64 0] := by rw [hN]; exact box_new W #[.int .i64 0, .int .i64 0, .int .i64 0, .int .i64 0, .int .i64 0] 50
           have bz1 : Fz V1 W.heap.size := by rw [hN]; exact fz_at W #[.int .i64 0, .int .i64 0, .int .i64 0, .int .i64 0, .int .i64 0] 50 _ rfl
           have bl1 : W.heap.size < V1.heap.size := by rw [hN]; simp
           have bs1 : W0.heap.size ≤ W.heap.size := hs
           clear hN
           replace hS := hSb _ _ hq hb hS
           replace hC := hC.trans (hb.mono hs)
           replace hs := Nat.le_trans hs hb.size
           clear hb
           refine hK.out _ _ hS (fun hHeld => ?_)
           clear hK K
           try simp only [Act.put, y1, y2, y3, y4, y5, y6]
           clear hHeld
           have h := L6_01.out V1 Aa ca Ax cx W.heap.size bg1 bz1 bl1 bs1 hS hs hC
           rw [hops.out, hQ.out, ha.out] at h
           try simp only [Act.put, y1, y2, y3, y4, y5, y6] at h
           exact h
        have L5_11 : Hid (∀ (W : World) (Aa : Option Addr) (ca lo Ha : Nat) (Ax : Option Addr) (cx lo2 Hx : Nat) (g0 : Nat) (g1 : Nat), (RdSS W lo Ha Aa n0 (rrBool l0)) → (Ha ≤ W.heap.size) → (Rd W lo2 Hx 2 Ax n4 (rRound l4)) → (Hx ≤ W.heap.size) → (Box W g0 [.int .i64 0, .int .i64 0, .int .i64 0, .int .i64 0, .int .i64 0]) → (Fz W g0) → (g0 < W.heap.size) → (W0.heap.size ≤ g0) → (Box W g1 [.int .i64 0, .int .i64 0, .int .i64 0, .int .i64 0, .int .i64 0]) → (Fz W g1) → (g1 < W.heap.size) → (W0.heap.size ≤ g1) → (g0 ≠ g1) → (Box W (w.heap.size) [.int .i64 x1_0, .int .i64 x1_1] ∧ Box W (w.heap.size + 1) [.int .i64 x2_0, .int .i64 x2_1, .int .i64 x2_2, .int .i64 x2_3, .int .i64 x2_4] ∧ Box W (w.heap.size + 2) [.int .i64 x3_0, .int .i64 x3_1, .int .i64 x3_2, .int .i64 x3_3, .int .i64 x3_4]) → (W0.heap.size ≤ W.heap.size) → (Below W0.heap.size W0 W) → wpAnyH Try.prog .any ops' Q' (fun W : World => Box W (w.heap.size) [.int .i64 x1_0, .int .i64 x1_1] ∧ Box W (w.heap.size + 1) [.int .i64 x2_0, .int .i64 x2_1, .int .i64 x2_2, .int .i64 x2_3, .int .i64 x2_4] ∧ Box W (w.heap.size + 2) [.int .i64 x3_0, .int .i64 x3_1, .int .i64 x3_2, .int .i64 x3_3, .int .i64 x3_4]) 10 #[true, true, true, true, true, true, true, true, true, true, false, false, false, false, false, false, true, true, false, false, false, false] (Act.put (Act.put (Act.put (Act.put (Act.put (Act.put (Act.put a' (some 34) (.slice Aa n0 ca)) (some 36) (.agg #[.int .i64 x1_0, .int .i64 x1_1])) (some 38) (.agg #[.int .i64 x2_0, .int .i64 x2_1, .int .i64 x2_2, .int .i64 x2_3, .int .i64 x2_4])) (some 40) (.agg #[.int .i64 x3_0, .int .i64 x3_1, .int .i64 x3_2, .int .i64 x3_3, .int .i64 x3_4])) (some 42) (.slice Ax n4 cx)) (some 12) (.pointer (some ⟨g0, 0, none⟩))) (some 13) (.pointer (some ⟨g1, 0, none⟩))) W) := by
         refine hide ?_
         intro W Aa ca lo Ha Ax cx lo2 Hx g0 g1 hrow hHi hrow2 hHi2 bg0 bz0 bl0 bs0 bg1 bz1 bl1 bs1 bn hS hs hC
         rw [hops.out, hQ.out, ha.out]
         try simp only [Act.put, y1, y2, y3, y4, y5, y6]
         have hq : w.heap.size + 3 ≤ W.heap.size := Nat.le_trans hp hs
         refine wpAnyH_ready (rs := [10]) (by kernel_rfl) (by simp) ?_
         refine AllReadyH.cons rfl (fun K hK => ?_) (AllReadyH.nil)
         · go_simp
           refine (specRunRounds_as Aa n0 ca _ _ l0 (by unfold maxLen; omega) x1_0 x1_1 x2_0 x2_1 x2_2 x2_3 x2_4 x3_0 x3_1 x3_2 x3_3 x3_4 Ax n4 cx _ _ l4 hl4 hn4 _ HP hrow hHi hrow2 hHi2).mono ?_
           rintro e V1 ⟨rfl, hb⟩
           replace hrow := hrow.below hb hHi
           replace hHi := Nat.le_trans hHi hb.size
           replace hrow2 := hrow2.below hb hHi2
           replace hHi2 := Nat.le_trans hHi2 hb.size
           replace bg0 := Box.below bg0 hb bl0
           replace bz0 := Fz.below bz0 hb bl0
           replace bl0 := Nat.lt_of_lt_of_le bl0 hb.size
           replace bg1 := Box.below bg1 hb bl1
           replace bz1 := Fz.below bz1 hb bl1
           replace bl1 := Nat.lt_of_lt_of_le bl1 hb.size
           replace hS := hSb _ _ hq hb hS
           replace hC := hC.trans (hb.mono hs)
           replace hs := Nat.le_trans hs hb.size
           clear hb
           refine hK.out _ _ hS (fun hHeld => ?_)
           clear hK K
           try simp only [Act.put, y1, y2, y3, y4, y5, y6]
           refine wpAnyH_take (i := 11) (v := ?_) rfl (by kernel_rfl) (by kernel_rfl) (by kernel_rfl) (fun _ _ _ h => h) (Or.inl ⟨by rfl, ?_⟩) (by assumption) ?_
           rotate_left
           · (intro W9 hSw; clear hSw; go_simp; try (with_reducible rfl))
           try simp only [Act.put, y1, y2, y3, y4, y5, y6]
           refine wpAnyH_take (i := 12) (v := ?_) rfl (by kernel_rfl) (by kernel_rfl) (by kernel_rfl) (fun _ _ _ h => h) (Or.inl ⟨by rfl, ?_⟩) (by assumption) ?_
           rotate_left
           · (intro W9 hSw; clear hSw; go_simp; try (with_reducible rfl))
           try simp only [Act.put, y1, y2, y3, y4, y5, y6]
           refine wpAnyH_take (i := 13) (v := ?_) rfl (by kernel_rfl) (by kernel_rfl) (by kernel_rfl) (fun _ _ _ h => h) (Or.inl ⟨by rfl, ?_⟩) (by assumption) ?_
           rotate_left
           · (intro W9 hSw; clear hSw; go_simp; try (with_reducible rfl))
           try simp only [Act.put, y1, y2, y3, y4, y5, y6]
           refine wpAnyH_take (i := 14) (v := ?_) rfl (by kernel_rfl) (by kernel_rfl) (by kernel_rfl) (fun _ _ _ h => h) (Or.inl ⟨by rfl, ?_⟩) (by assumption) ?_
           rotate_left
           · (intro W9 hSw; clear hSw; go_simp; try (with_reducible rfl))
           try simp only [Act.put, y1, y2, y3, y4, y5, y6]
           refine wpAnyH_take (i := 15) (v := ?_) rfl (by kernel_rfl) (by kernel_rfl) (by kernel_rfl) (fun _ _ _ h => h) (Or.inl ⟨by rfl, ?_⟩) (by assumption) ?_
           rotate_left
           · (intro W9 hSw; clear hSw; go_simp; try (with_reducible rfl))
           try simp only [Act.put, y1, y2, y3, y4, y5, y6]
           clear hHeld
           have h := L6_11.out V1 Aa ca Ax cx g0 g1 bg0 bz0 bl0 bs0 bg1 bz1 bl1 bs1 bn hS hs hC
           rw [hops.out, hQ.out, ha.out] at h
           try simp only [Act.put, y1, y2, y3, y4, y5, y6] at h
           exact h
        have L5_01 : Hid (∀ (W : World) (Aa : Option Addr) (ca lo Ha : Nat) (Ax : Option Addr) (cx lo2 Hx : Nat) (g1 : Nat), (RdSS W lo Ha Aa n0 (rrBool l0)) → (Ha ≤ W.heap.size) → (Rd W lo2 Hx 2 Ax n4 (rRound l4)) → (Hx ≤ W.heap.size) → (Box W g1 [.int .i64 0, .int .i64 0, .int .i64 0, .int .i64 0, .int .i64 0]) → (Fz W g1) → (g1 < W.heap.size) → (W0.heap.size ≤ g1) → (Box W (w.heap.size) [.int .i64 x1_0, .int .i64 x1_1] ∧ Box W (w.heap.size + 1) [.int .i64 x2_0, .int .i64 x2_1, .int .i64 x2_2, .int .i64 x2_3, .int .i64 x2_4] ∧ Box W (w.heap.size + 2) [.int .i64 x3_0, .int .i64 x3_1, .int .i64 x3_2, .int .i64 x3_3, .int .i64 x3_4]) → (W0.heap.size ≤ W.heap.size) → (Below W0.heap.size W0 W) → wpAnyH Try.prog .any ops' Q' (fun W : World => Box W (w.heap.size) [.int .i64 x1_0, .int .i64 x1_1] ∧ Box W (w.heap.size + 1) [.int .i64 x2_0, .int .i64 x2_1, .int .i64 x2_2, .int .i64 x2_3, .int .i64 x2_4] ∧ Box W (w.heap.size + 2) [.int .i64 x3_0, .int .i64 x3_1, .int .i64 x3_2, .int .i64 x3_3, .int .i64 x3_4]) 11 #[true, true, true, true, true, true, true, true, true, true, false, false, false, false, false, false, false, true, false, false, false, false] (Act.put (Act.put (Act.put (Act.put (Act.put (Act.put a' (some 34) (.slice Aa n0 ca)) (some 36) (.agg #[.int .i64 x1_0, .int .i64 x1_1])) (some 38) (.agg #[.int .i64 x2_0, .int .i64 x2_1, .int .i64 x2_2, .int .i64 x2_3, .int .i64 x2_4])) (some 40) (.agg #[.int .i64 x3_0, .int .i64 x3_1, .int .i64 x3_2, .int .i64 x3_3, .int .i64 x3_4])) (some 42) (.slice Ax n4 cx)) (some 13) (.pointer (some ⟨g1, 0, none⟩))) W) := by
         refine hide ?_
         intro W Aa ca lo Ha Ax cx lo2 Hx g1 hrow hHi hrow2 hHi2 bg1 bz1 bl1 bs1 hS hs hC
         rw [hops.out, hQ.out, ha.out]
         try simp only [Act.put, y1, y2, y3, y4, y5, y6]
         have hq : w.heap.size + 3 ≤ W.heap.size := Nat.le_trans hp hs
         refine wpAnyH_ready (rs := [10, 16]) (by kernel_rfl) (by simp) ?_
         refine AllReadyH.cons rfl (fun K hK => ?_) (AllReadyH.cons rfl (fun K hK => ?_) (AllReadyH.nil))
         · go_simp
           refine (specRunRounds_as Aa n0 ca _ _ l0 (by unfold maxLen; omega) x1_0 x1_1 x2_0 x2_1 x2_2 x2_3 x2_4 x3_0 x3_1 x3_2 x3_3 x3_4 Ax n4 cx _ _ l4 hl4 hn4 _ HP hrow hHi hrow2 hHi2).mono ?_
           rintro e V1 ⟨rfl, hb⟩
           replace hrow := hrow.below hb hHi
           replace hHi := Nat.le_trans hHi hb.size
           replace hrow2 := hrow2.below hb hHi2
           replace hHi2 := Nat.le_trans hHi2 hb.size
           replace bg1 := Box.below bg1 hb bl1
           replace bz1 := Fz.below bz1 hb bl1
           replace bl1 := Nat.lt_of_lt_of_le bl1 hb.size
           replace hS := hSb _ _ hq hb hS
           replace hC := hC.trans (hb.mono hs)
           replace hs := Nat.le_trans hs hb.size
           clear hb
           refine hK.out _ _ hS (fun hHeld => ?_)
           clear hK K
           try simp only [Act.put, y1, y2, y3, y4, y5, y6]
           refine wpAnyH_take (i := 11) (v := ?_) rfl (by kernel_rfl) (by kernel_rfl) (by kernel_rfl) (fun _ _ _ h => h) (Or.inl ⟨by rfl, ?_⟩) (by assumption) ?_
           rotate_left
           · (intro W9 hSw; clear hSw; go_simp; try (with_reducible rfl))
           try simp only [Act.put, y1, y2, y3, y4, y5, y6]
           refine wpAnyH_take (i := 12) (v := ?_) rfl (by kernel_rfl) (by kernel_rfl) (by kernel_rfl) (fun _ _ _ h => h) (Or.inl ⟨by rfl, ?_⟩) (by assumption) ?_
           rotate_left
           · (intro W9 hSw; clear hSw; go_simp; try (with_reducible rfl))
           try simp only [Act.put, y1, y2, y3, y4, y5, y6]
           refine wpAnyH_take (i := 13) (v := ?_) rfl (by kernel_rfl) (by kernel_rfl) (by kernel_rfl) (fun _ _ _ h => h) (Or.inl ⟨by rfl, ?_⟩) (by assumption) ?_
           rotate_left
           · (intro W9 hSw; clear hSw; go_simp; try (with_reducible rfl))
           try simp only [Act.put, y1, y2, y3, y4, y5, y6]
           refine wpAnyH_take (i := 14) (v := ?_) rfl (by kernel_rfl) (by kernel_rfl) (by kernel_rfl) (fun _ _ _ h => h) (Or.inl ⟨by rfl, ?_⟩) (by assumption) ?_
           rotate_left
           · (intro W9 hSw; clear hSw; go_simp; try (with_reducible rfl))
           try simp only [Act.put, y1, y2, y3, y4, y5, y6]
           refine wpAnyH_take (i := 15) (v := ?_) rfl (by kernel_rfl) (by kernel_rfl) (by kernel_rfl) (fun _ _ _ h => h) (Or.inl ⟨by rfl, ?_⟩) (by assumption) ?_
           rotate_left
           · (intro W9 hSw; clear hSw; go_simp; try (with_reducible rfl))
           try simp only [Act.put, y1, y2, y3, y4, y5, y6]
           clear hHeld
           have h := L6_01.out V1 Aa ca Ax cx g1 bg1 bz1 bl1 bs1 hS hs hC
           rw [hops.out, hQ.out, ha.out] at h
           try simp only [Act.put, y1, y2, y3, y4, y5, y6] at h
           exact h
         · go_simp
           obtain ⟨V1, hN⟩ : ∃ V : World, V = World.alloc W (.cells #[.int .i64 0, .int .i64 0, .int .i64 0, .int .i64 0, .int .i64 0] 50) := ⟨_, rfl⟩
           rw [← hN]
           have hb : Below W.heap.size W V1 := by rw [hN]; exact (Below.refl _ _).alloc (Nat.le_refl _) _
           have bg0 : Box V1 W.heap.size [.int .i64 0, .int .i64 0, .int .i64 0, .int .i64 0, .int .i64 0] := by rw [hN]; exact box_new W #[.int .i64 0, .int .i64 0, .int .i64 0, .int .i64 0, .int .i64 0] 50
           have bz0 : Fz V1 W.heap.size := by rw [hN]; exact fz_at W #[.int .i64 0, .int .i64 0, .int .i64 0, .int .i64 0, .int .i64 0] 50 _ rfl
           have bl0 : W.heap.size < V1.heap.size := by rw [hN]; simp
           have bs0 : W0.heap.size ≤ W.heap.size := hs
           have bn : W.heap.size ≠ g1 := by omega
           clear hN
           replace hrow := hrow.below hb hHi
           replace hHi := Nat.le_trans hHi hb.size
           replace hrow2 := hrow2.below hb hHi2
           replace hHi2 := Nat.le_trans hHi2 hb.size
           replace bg1 := Box.below bg1 hb bl1
           replace bz1 := Fz.below bz1 hb bl1
           replace bl1 := Nat.lt_of_lt_of_le bl1 hb.size
           replace hS := hSb _ _ hq hb hS
           replace hC := hC.trans (hb.mono hs)
           replace hs := Nat.le_trans hs hb.size
           clear hb
           refine hK.out _ _ hS (fun hHeld => ?_)
           clear hK K
           try simp only [Act.put, y1, y2, y3, y4, y5, y6]
           clear hHeld
           have h := L5_11.out V1 Aa ca _ _ Ax cx _ _ W.heap.size g1 hrow hHi hrow2 hHi2 bg0 bz0 bl0 bs0 bg1 bz1 bl1 bs1 bn hS hs hC
           rw [hops.out, hQ.out, ha.out] at h
           try simp only [Act.put, y1, y2, y3, y4, y5, y6] at h
           exact h
        have L5_10 : Hid (∀ (W : World) (Aa : Option Addr) (ca lo Ha : Nat) (Ax : Option Addr) (cx lo2 Hx : Nat) (g0 : Nat), (RdSS W lo Ha Aa n0 (rrBool l0)) → (Ha ≤ W.heap.size) → (Rd W lo2 Hx 2 Ax n4 (rRound l4)) → (Hx ≤ W.heap.size) → (Box W g0 [.int .i64 0, .int .i64 0, .int .i64 0, .int .i64 0, .int .i64 0]) → (Fz W g0) → (g0 < W.heap.size) → (W0.heap.size ≤ g0) → (Box W (w.heap.size) [.int .i64 x1_0, .int .i64 x1_1] ∧ Box W (w.heap.size + 1) [.int .i64 x2_0, .int .i64 x2_1, .int .i64 x2_2, .int .i64 x2_3, .int .i64 x2_4] ∧ Box W (w.heap.size + 2) [.int .i64 x3_0, .int .i64 x3_1, .int .i64 x3_2, .int .i64 x3_3, .int .i64 x3_4]) → (W0.heap.size ≤ W.heap.size) → (Below W0.heap.size W0 W) → wpAnyH Try.prog .any ops' Q' (fun W : World => Box W (w.heap.size) [.int .i64 x1_0, .int .i64 x1_1] ∧ Box W (w.heap.size + 1) [.int .i64 x2_0, .int .i64 x2_1, .int .i64 x2_2, .int .i64 x2_3, .int .i64 x2_4] ∧ Box W (w.heap.size + 2) [.int .i64 x3_0, .int .i64 x3_1, .int .i64 x3_2, .int .i64 x3_3, .int .i64 x3_4]) 11 #[true, true, true, true, true, true, true, true, true, true, false, false, false, false, false, false, true, false, false, false, false, false] (Act.put (Act.put (Act.put (Act.put (Act.put (Act.put a' (some 34) (.slice Aa n0 ca)) (some 36) (.agg #[.int .i64 x1_0, .int .i64 x1_1])) (some 38) (.agg #[.int .i64 x2_0, .int .i64 x2_1, .int .i64 x2_2, .int .i64 x2_3, .int .i64 x2_4])) (some 40) (.agg #[.int .i64 x3_0, .int .i64 x3_1, .int .i64 x3_2, .int .i64 x3_3, .int .i64 x3_4])) (some 42) (.slice Ax n4 cx)) (some 12) (.pointer (some ⟨g0, 0, none⟩))) W) := by
         refine hide ?_
         intro W Aa ca lo Ha Ax cx lo2 Hx g0 hrow hHi hrow2 hHi2 bg0 bz0 bl0 bs0 hS hs hC
         rw [hops.out, hQ.out, ha.out]
         try simp only [Act.put, y1, y2, y3, y4, y5, y6]
         have hq : w.heap.size + 3 ≤ W.heap.size := Nat.le_trans hp hs
         refine wpAnyH_ready (rs := [10, 17]) (by kernel_rfl) (by simp) ?_
         refine AllReadyH.cons rfl (fun K hK => ?_) (AllReadyH.cons rfl (fun K hK => ?_) (AllReadyH.nil))
         · go_simp
           refine (specRunRounds_as Aa n0 ca _ _ l0 (by unfold maxLen; omega) x1_0 x1_1 x2_0 x2_1 x2_2 x2_3 x2_4 x3_0 x3_1 x3_2 x3_3 x3_4 Ax n4 cx _ _ l4 hl4 hn4 _ HP hrow hHi hrow2 hHi2).mono ?_
           rintro e V1 ⟨rfl, hb⟩
           replace hrow := hrow.below hb hHi
           replace hHi := Nat.le_trans hHi hb.size
           replace hrow2 := hrow2.below hb hHi2
           replace hHi2 := Nat.le_trans hHi2 hb.size
           replace bg0 := Box.below bg0 hb bl0
           replace bz0 := Fz.below bz0 hb bl0
           replace bl0 := Nat.lt_of_lt_of_le bl0 hb.size
           replace hS := hSb _ _ hq hb hS
           replace hC := hC.trans (hb.mono hs)
           replace hs := Nat.le_trans hs hb.size
           clear hb
           refine hK.out _ _ hS (fun hHeld => ?_)
           clear hK K
           try simp only [Act.put, y1, y2, y3, y4, y5, y6]
           refine wpAnyH_take (i := 11) (v := ?_) rfl (by kernel_rfl) (by kernel_rfl) (by kernel_rfl) (fun _ _ _ h => h) (Or.inl ⟨by rfl, ?_⟩) (by assumption) ?_
           rotate_left
           · (intro W9 hSw; clear hSw; go_simp; try (with_reducible rfl))
           try simp only [Act.put, y1, y2, y3, y4, y5, y6]
           refine wpAnyH_take (i := 12) (v := ?_) rfl (by kernel_rfl) (by kernel_rfl) (by kernel_rfl) (fun _ _ _ h => h) (Or.inl ⟨by rfl, ?_⟩) (by assumption) ?_
           rotate_left
           · (intro W9 hSw; clear hSw; go_simp; try (with_reducible rfl))
           try simp only [Act.put, y1, y2, y3, y4, y5, y6]
           refine wpAnyH_take (i := 13) (v := ?_) rfl (by kernel_rfl) (by kernel_rfl) (by kernel_rfl) (fun _ _ _ h => h) (Or.inl ⟨by rfl, ?_⟩) (by assumption) ?_
           rotate_left
           · (intro W9 hSw; clear hSw; go_simp; try (with_reducible rfl))
           try simp only [Act.put, y1, y2, y3, y4, y5, y6]
           refine wpAnyH_take (i := 14) (v := ?_) rfl (by kernel_rfl) (by kernel_rfl) (by kernel_rfl) (fun _ _ _ h => h) (Or.inl ⟨by rfl, ?_⟩) (by assumption) ?_
           rotate_left
           · (intro W9 hSw; clear hSw; go_simp; try (with_reducible rfl))
           try simp only [Act.put, y1, y2, y3, y4, y5, y6]
           refine wpAnyH_take (i := 15) (v := ?_) rfl (by kernel_rfl) (by kernel_rfl) (by kernel_rfl) (fun _ _ _ h => h) (Or.inl ⟨by rfl, ?_⟩) (by assumption) ?_
           rotate_left
           · (intro W9 hSw; clear hSw; go_simp; try (with_reducible rfl))
           try simp only [Act.put, y1, y2, y3, y4, y5, y6]
           clear hHeld
           have h := L6_10.out V1 Aa ca Ax cx g0 bg0 bz0 bl0 bs0 hS hs hC
           rw [hops.out, hQ.out, ha.out] at h
           try simp only [Act.put, y1, y2, y3, y4, y5, y6] at h
           exact h
         · go_simp
           obtain ⟨V1, hN⟩ : ∃ V : World, V = World.alloc W (.cells #[.int .i64 0, .int .i64 0, .int .i64 0, .int .i64 0, .int .i64 0] 50) := ⟨_, rfl⟩
           rw [← hN]
           have hb : Below W.heap.size W V1 := by rw [hN]; exact (Below.refl _ _).alloc (Nat.le_refl _) _
           have bg1 : Box V1 W.heap.size [.int .i64 0, .int .i64 0, .int .i64 0, .int .i64 0, .int .i64 0] := by rw [hN]; exact box_new W #[.int .i64 0, .int .i64 0, .int .i64 0, .int .i64 0, .int .i64 0] 50
           have bz1 : Fz V1 W.heap.size := by rw [hN]; exact fz_at W #[.int .i64 0, .int .i64 0, .int .i64 0, .int .i64 0, .int .i64 0] 50 _ rfl
           have bl1 : W.heap.size < V1.heap.size := by rw [hN]; simp
           have bs1 : W0.heap.size ≤ W.heap.size := hs
           have bn : g0 ≠ W.heap.size := by omega
           clear hN
           replace hrow := hrow.below hb hHi
           replace hHi := Nat.le_trans hHi hb.size
           replace hrow2 := hrow2.below hb hHi2
           replace hHi2 := Nat.le_trans hHi2 hb.size
           replace bg0 := Box.below bg0 hb bl0
           replace bz0 := Fz.below bz0 hb bl0
           replace bl0 := Nat.lt_of_lt_of_le bl0 hb.size
           replace hS := hSb _ _ hq hb hS
           replace hC := hC.trans (hb.mono hs)
           replace hs := Nat.le_trans hs hb.size
           clear hb
           refine hK.out _ _ hS (fun hHeld => ?_)
           clear hK K
           try simp only [Act.put, y1, y2, y3, y4, y5, y6]
           clear hHeld
           have h := L5_11.out V1 Aa ca _ _ Ax cx _ _ g0 W.heap.size hrow hHi hrow2 hHi2 bg0 bz0 bl0 bs0 bg1 bz1 bl1 bs1 bn hS hs hC
           rw [hops.out, hQ.out, ha.out] at h
           try simp only [Act.put, y1, y2, y3, y4, y5, y6] at h
           exact h
        have L5_00 : Hid (∀ (W : World) (Aa : Option Addr) (ca lo Ha : Nat) (Ax : Option Addr) (cx lo2 Hx : Nat), (RdSS W lo Ha Aa n0 (rrBool l0)) → (Ha ≤ W.heap.size) → (Rd W lo2 Hx 2 Ax n4 (rRound l4)) → (Hx ≤ W.heap.size) → (Box W (w.heap.size) [.int .i64 x1_0, .int .i64 x1_1] ∧ Box W (w.heap.size + 1) [.int .i64 x2_0, .int .i64 x2_1, .int .i64 x2_2, .int .i64 x2_3, .int .i64 x2_4] ∧ Box W (w.heap.size + 2) [.int .i64 x3_0, .int .i64 x3_1, .int .i64 x3_2, .int .i64 x3_3, .int .i64 x3_4]) → (W0.heap.size ≤ W.heap.size) → (Below W0.heap.size W0 W) → wpAnyH Try.prog .any ops' Q' (fun W : World => Box W (w.heap.size) [.int .i64 x1_0, .int .i64 x1_1] ∧ Box W (w.heap.size + 1) [.int .i64 x2_0, .int .i64 x2_1, .int .i64 x2_2, .int .i64 x2_3, .int .i64 x2_4] ∧ Box W (w.heap.size + 2) [.int .i64 x3_0, .int .i64 x3_1, .int .i64 x3_2, .int .i64 x3_3, .int .i64 x3_4]) 12 #[true, true, true, true, true, true, true, true, true, true, false, false, false, false, false, false, false, false, false, false, false, false] (Act.put (Act.put (Act.put (Act.put (Act.put a' (some 34) (.slice Aa n0 ca)) (some 36) (.agg #[.int .i64 x1_0, .int .i64 x1_1])) (some 38) (.agg #[.int .i64 x2_0, .int .i64 x2_1, .int .i64 x2_2, .int .i64 x2_3, .int .i64 x2_4])) (some 40) (.agg #[.int .i64 x3_0, .int .i64 x3_1, .int .i64 x3_2, .int .i64 x3_3, .int .i64 x3_4])) (some 42) (.slice Ax n4 cx)) W) := by
         refine hide ?_
         intro W Aa ca lo Ha Ax cx lo2 Hx hrow hHi hrow2 hHi2 hS hs hC
         rw [hops.out, hQ.out, ha.out]
         try simp only [Act.put, y1, y2, y3, y4, y5, y6]
         have hq : w.heap.size + 3 ≤ W.heap.size := Nat.le_trans hp hs
         refine wpAnyH_ready (rs := [10, 16, 17]) (by kernel_rfl) (by simp) ?_
         refine AllReadyH.cons rfl (fun K hK => ?_) (AllReadyH.cons rfl (fun K hK => ?_) (AllReadyH.cons rfl (fun K hK => ?_) (AllReadyH.nil)))
         · go_simp
           refine (specRunRounds_as Aa n0 ca _ _ l0 (by unfold maxLen; omega) x1_0 x1_1 x2_0 x2_1 x2_2 x2_3 x2_4 x3_0 x3_1 x3_2 x3_3 x3_4 Ax n4 cx _ _ l4 hl4 hn4 _ HP hrow hHi hrow2 hHi2).mono ?_
           rintro e V1 ⟨rfl, hb⟩
           replace hrow := hrow.below hb hHi
           replace hHi := Nat.le_trans hHi hb.size
           replace hrow2 := hrow2.below hb hHi2
           replace hHi2 := Nat.le_trans hHi2 hb.size
           replace hS := hSb _ _ hq hb hS
           replace hC := hC.trans (hb.mono hs)
           replace hs := Nat.le_trans hs hb.size
           clear hb
           refine hK.out _ _ hS (fun hHeld => ?_)
           clear hK K
           try simp only [Act.put, y1, y2, y3, y4, y5, y6]
           refine wpAnyH_take (i := 11) (v := ?_) rfl (by kernel_rfl) (by kernel_rfl) (by kernel_rfl) (fun _ _ _ h => h) (Or.inl ⟨by rfl, ?_⟩) (by assumption) ?_
           rotate_left
           · (intro W9 hSw; clear hSw; go_simp; try (with_reducible rfl))
           try simp only [Act.put, y1, y2, y3, y4, y5, y6]
           refine wpAnyH_take (i := 12) (v := ?_) rfl (by kernel_rfl) (by kernel_rfl) (by kernel_rfl) (fun _ _ _ h => h) (Or.inl ⟨by rfl, ?_⟩) (by assumption) ?_
           rotate_left
           · (intro W9 hSw; clear hSw; go_simp; try (with_reducible rfl))
           try simp only [Act.put, y1, y2, y3, y4, y5, y6]
           refine wpAnyH_take (i := 13) (v := ?_) rfl (by kernel_rfl) (by kernel_rfl) (by kernel_rfl) (fun _ _ _ h => h) (Or.inl ⟨by rfl, ?_⟩) (by assumption) ?_
           rotate_left
           · (intro W9 hSw; clear hSw; go_simp; try (with_reducible rfl))
           try simp only [Act.put, y1, y2, y3, y4, y5, y6]
           refine wpAnyH_take (i := 14) (v := ?_) rfl (by kernel_rfl) (by kernel_rfl) (by kernel_rfl) (fun _ _ _ h => h) (Or.inl ⟨by rfl, ?_⟩) (by assumption) ?_
           rotate_left
           · (intro W9 hSw; clear hSw; go_simp; try (with_reducible rfl))
           try simp only [Act.put, y1, y2, y3, y4, y5, y6]
           refine wpAnyH_take (i := 15) (v := ?_) rfl (by kernel_rfl) (by kernel_rfl) (by kernel_rfl) (fun _ _ _ h => h) (Or.inl ⟨by rfl, ?_⟩) (by assumption) ?_
           rotate_left
           · (intro W9 hSw; clear hSw; go_simp; try (with_reducible rfl))
           try simp only [Act.put, y1, y2, y3, y4, y5, y6]
           clear hHeld
           have h := L6_00.out V1 Aa ca Ax cx hS hs hC
           rw [hops.out, hQ.out, ha.out] at h
           try simp only [Act.put, y1, y2, y3, y4, y5, y6] at h
           exact h
         · go_simp
           obtain ⟨V1, hN⟩ : ∃ V : World, V = World.alloc W (.cells #[.int .i64 0, .int .i64 0, .int .i64 0, .int .i64 0, .int .i64 0] 50) := ⟨_, rfl⟩
           rw [← hN]
           have hb : Below W.heap.size W V1 := by rw [hN]; exact (Below.refl _ _).alloc (Nat.le_refl _) _
           have bg0 : Box V1 W.heap.size [.int .i64 0, .int .i64 0, .int .i64 0, .int .i64 0, .int .i64 0] := by rw [hN]; exact box_new W #[.int .i64 0, .int .i64 0, .int .i64 0, .int .i64 0, .int .i64 0] 50
           have bz0 : Fz V1 W.heap.size := by rw [hN]; exact fz_at W #[.int .i64 0, .int .i64 0, .int .i64 0, .int .i64 0, .int .i64 0] 50 _ rfl
           have bl0 : W.heap.size < V1.heap.size := by rw [hN]; simp
           have bs0 : W0.heap.size ≤ W.heap.size := hs
           clear hN
           replace hrow := hrow.below hb hHi
           replace hHi := Nat.le_trans hHi hb.size
           replace hrow2 := hrow2.below hb hHi2
           replace hHi2 := Nat.le_trans hHi2 hb.size
           replace hS := hSb _ _ hq hb hS
           replace hC := hC.trans (hb.mono hs)
           replace hs := Nat.le_trans hs hb.size
           clear hb
           refine hK.out _ _ hS (fun hHeld => ?_)
           clear hK K
           try simp only [Act.put, y1, y2, y3, y4, y5, y6]
           clear hHeld
           have h := L5_10.out V1 Aa ca _ _ Ax cx _ _ W.heap.size hrow hHi hrow2 hHi2 bg0 bz0 bl0 bs0 hS hs hC
           rw [hops.out, hQ.out, ha.out] at h
           try simp only [Act.put, y1, y2, y3, y4, y5, y6] at h
           exact h
         · go_simp
           obtain ⟨V1, hN⟩ : ∃ V : World, V = World.alloc W (.cells #[.int .i64 0, .int .i64 0, .int .i64 0, .int .i64 0, .int .i64 0] 50) := ⟨_, rfl⟩
           rw [← hN]
           have hb : Below W.heap.size W V1 := by rw [hN]; exact (Below.refl _ _).alloc (Nat.le_refl _) _
           have bg1 : Box V1 W.heap.size [.int .i64 0, .int .i64 0, .int .i64 0, .int .i64 0, .int .i64 0] := by rw [hN]; exact box_new W #[.int .i64 0, .int .i64 0, .int .i64 0, .int .i64 0, .int .i64 0] 50
           have bz1 : Fz V1 W.heap.size := by rw [hN]; exact fz_at W #[.int .i64 0, .int .i64 0, .int .i64 0, .int .i64 0, .int .i64 0] 50 _ rfl
           have bl1 : W.heap.size < V1.heap.size := by rw [hN]; simp
           have bs1 : W0.heap.size ≤ W.heap.size := hs
           clear hN
           replace hrow := hrow.below hb hHi
           replace hHi := Nat.le_trans hHi hb.size
           replace hrow2 := hrow2.below hb hHi2
           replace hHi2 := Nat.le_trans hHi2 hb.size
           replace hS := hSb _ _ hq hb hS
           replace hC := hC.trans (hb.mono hs)
           replace hs := Nat.le_trans hs hb.size
           clear hb
           refine hK.out _ _ hS (fun hHeld => ?_)
           clear hK K
           try simp only [Act.put, y1, y2, y3, y4, y5, y6]
           clear hHeld
           have h := L5_01.out V1 Aa ca _ _ Ax cx _ _ W.heap.size hrow hHi hrow2 hHi2 bg1 bz1 bl1 bs1 hS hs hC
           rw [hops.out, hQ.out, ha.out] at h
           try simp only [Act.put, y1, y2, y3, y4, y5, y6] at h
           exact h
        have L4_11 : Hid (∀ (W : World) (Aa : Option Addr) (ca lo Ha lo2 : Nat) (g0 : Nat) (g1 : Nat), (RdSS W lo Ha Aa n0 (rrBool l0)) → (Ha ≤ W.heap.size) → (Rd W lo2 w.heap.size 2 A4 n4 (rRound l4)) → (w.heap.size ≤ W.heap.size) → (Box W g0 [.int .i64 0, .int .i64 0, .int .i64 0, .int .i64 0, .int .i64 0]) → (Fz W g0) → (g0 < W.heap.size) → (W0.heap.size ≤ g0) → (Box W g1 [.int .i64 0, .int .i64 0, .int .i64 0, .int .i64 0, .int .i64 0]) → (Fz W g1) → (g1 < W.heap.size) → (W0.heap.size ≤ g1) → (g0 ≠ g1) → (Box W (w.heap.size) [.int .i64 x1_0, .int .i64 x1_1] ∧ Box W (w.heap.size + 1) [.int .i64 x2_0, .int .i64 x2_1, .int .i64 x2_2, .int .i64 x2_3, .int .i64 x2_4] ∧ Box W (w.heap.size + 2) [.int .i64 x3_0, .int .i64 x3_1, .int .i64 x3_2, .int .i64 x3_3, .int .i64 x3_4]) → (W0.heap.size ≤ W.heap.size) → (Below W0.heap.size W0 W) → wpAnyH Try.prog .any ops' Q' (fun W : World => Box W (w.heap.size) [.int .i64 x1_0, .int .i64 x1_1] ∧ Box W (w.heap.size + 1) [.int .i64 x2_0, .int .i64 x2_1, .int .i64 x2_2, .int .i64 x2_3, .int .i64 x2_4] ∧ Box W (w.heap.size + 2) [.int .i64 x3_0, .int .i64 x3_1, .int .i64 x3_2, .int .i64 x3_3, .int .i64 x3_4]) 11 #[true, true, true, true, true, true, true, true, true, false, false, false, false, false, false, false, true, true, false, false, false, false] (Act.put (Act.put (Act.put (Act.put (Act.put (Act.put a' (some 34) (.slice Aa n0 ca)) (some 36) (.agg #[.int .i64 x1_0, .int .i64 x1_1])) (some 38) (.agg #[.int .i64 x2_0, .int .i64 x2_1, .int .i64 x2_2, .int .i64 x2_3, .int .i64 x2_4])) (some 40) (.agg #[.int .i64 x3_0, .int .i64 x3_1, .int .i64 x3_2, .int .i64 x3_3, .int .i64 x3_4])) (some 12) (.pointer (some ⟨g0, 0, none⟩))) (some 13) (.pointer (some ⟨g1, 0, none⟩))) W) := by
         refine hide ?_
         intro W Aa ca lo Ha lo2 g0 g1 hrow hHi hrow2 hHi2 bg0 bz0 bl0 bs0 bg1 bz1 bl1 bs1 bn hS hs hC
         rw [hops.out, hQ.out, ha.out]
         try simp only [Act.put, y1, y2, y3, y4, y5, y6]
         have hq : w.heap.size + 3 ≤ W.heap.size := Nat.le_trans hp hs
         refine wpAnyH_ready (rs := [9]) (by kernel_rfl) (by simp) ?_
         refine AllReadyH.cons rfl (fun K hK => ?_) (AllReadyH.nil)
         · go_simp
           refine (toRoundS_any A4 n4 c4 _ w.heap.size l4 hn4 _ hl4 hrow2 hHi2).mono ?_
           rintro e V1 ⟨vx, rfl, hox, hb⟩
           replace hrow := hrow.below hb hHi
           replace hHi := Nat.le_trans hHi hb.size
           replace hrow2 := hrow2.below hb hHi2
           replace hHi2 := Nat.le_trans hHi2 hb.size
           replace bg0 := Box.below bg0 hb bl0
           replace bz0 := Fz.below bz0 hb bl0
           replace bl0 := Nat.lt_of_lt_of_le bl0 hb.size
           replace bg1 := Box.below bg1 hb bl1
           replace bz1 := Fz.below bz1 hb bl1
           replace bl1 := Nat.lt_of_lt_of_le bl1 hb.size
           replace hS := hSb _ _ hq hb hS
           replace hC := hC.trans (hb.mono hs)
           replace hs := Nat.le_trans hs hb.size
           obtain ⟨Ax, cx, rfl, _, _, hrx⟩ := hox.rd; clear hox hrow2 hHi2; have hrow2 := hrx; have hHi2 := Nat.le_refl V1.heap.size
           clear hb
           refine hK.out _ _ hS (fun hHeld => ?_)
           clear hK K
           try simp only [Act.put, y1, y2, y3, y4, y5, y6]
           clear hHeld
           have h := L5_11.out V1 Aa ca _ _ Ax cx _ _ g0 g1 hrow hHi hrow2 hHi2 bg0 bz0 bl0 bs0 bg1 bz1 bl1 bs1 bn hS hs hC
           rw [hops.out, hQ.out, ha.out] at h
           try simp only [Act.put, y1, y2, y3, y4, y5, y6] at h
           exact h
        have L4_01 : Hid (∀ (W : World) (Aa : Option Addr) (ca lo Ha lo2 : Nat) (g1 : Nat), (RdSS W lo Ha Aa n0 (rrBool l0)) → (Ha ≤ W.heap.size) → (Rd W lo2 w.heap.size 2 A4 n4 (rRound l4)) → (w.heap.size ≤ W.heap.size) → (Box W g1 [.int .i64 0, .int .i64 0, .int .i64 0, .int .i64 0, .int .i64 0]) → (Fz W g1) → (g1 < W.heap.size) → (W0.heap.size ≤ g1) → (Box W (w.heap.size) [.int .i64 x1_0, .int .i64 x1_1] ∧ Box W (w.heap.size + 1) [.int .i64 x2_0, .int .i64 x2_1, .int .i64 x2_2, .int .i64 x2_3, .int .i64 x2_4] ∧ Box W (w.heap.size + 2) [.int .i64 x3_0, .int .i64 x3_1, .int .i64 x3_2, .int .i64 x3_3, .int .i64 x3_4]) → (W0.heap.size ≤ W.heap.size) → (Below W0.heap.size W0 W) → wpAnyH Try.prog .any ops' Q' (fun W : World => Box W (w.heap.size) [.int .i64 x1_0, .int .i64 x1_1] ∧ Box W (w.heap.size + 1) [.int .i64 x2_0, .int .i64 x2_1, .int .i64 x2_2, .int .i64 x2_3, .int .i64 x2_4] ∧ Box W (w.heap.size + 2) [.int .i64 x3_0, .int .i64 x3_1, .int .i64 x3_2, .int .i64 x3_3, .int .i64 x3_4]) 12 #[true, true, true, true, true, true, true, true, true, false, false, false, false, false, false, false, false, true, false, false, false, false] (Act.put (Act.put (Act.put (Act.put (Act.put a' (some 34) (.slice Aa n0 ca)) (some 36) (.agg #[.int .i64 x1_0, .int .i64 x1_1])) (some 38) (.agg #[.int .i64 x2_0, .int .i64 x2_1, .int .i64 x2_2, .int .i64 x2_3, .int .i64 x2_4])) (some 40) (.agg #[.int .i64 x3_0, .int .i64 x3_1, .int .i64 x3_2, .int .i64 x3_3, .int .i64 x3_4])) (some 13) (.pointer (some ⟨g1, 0, none⟩))) W) := by
         refine hide ?_
         intro W Aa ca lo Ha lo2 g1 hrow hHi hrow2 hHi2 bg1 bz1 bl1 bs1 hS hs hC
         rw [hops.out, hQ.out, ha.out]
         try simp only [Act.put, y1, y2, y3, y4, y5, y6]
         have hq : w.heap.size + 3 ≤ W.heap.size := Nat.le_trans hp hs
         refine wpAnyH_ready (rs := [9, 16]) (by kernel_rfl) (by simp) ?_
         refine AllReadyH.cons rfl (fun K hK => ?_) (AllReadyH.cons rfl (fun K hK => ?_) (AllReadyH.nil))
         · go_simp
           refine (toRoundS_any A4 n4 c4 _ w.heap.size l4 hn4 _ hl4 hrow2 hHi2).mono ?_
           rintro e V1 ⟨vx, rfl, hox, hb⟩
           replace hrow := hrow.below hb hHi
           replace hHi := Nat.le_trans hHi hb.size
           replace hrow2 := hrow2.below hb hHi2
           replace hHi2 := Nat.le_trans hHi2 hb.size
           replace bg1 := Box.below bg1 hb bl1
           replace bz1 := Fz.below bz1 hb bl1
           replace bl1 := Nat.lt_of_lt_of_le bl1 hb.size
           replace hS := hSb _ _ hq hb hS
           replace hC := hC.trans (hb.mono hs)
           replace hs := Nat.le_trans hs hb.size
           obtain ⟨Ax, cx, rfl, _, _, hrx⟩ := hox.rd; clear hox hrow2 hHi2; have hrow2 := hrx; have hHi2 := Nat.le_refl V1.heap.size
           clear hb
           refine hK.out _ _ hS (fun hHeld => ?_)
           clear hK K
           try simp only [Act.put, y1, y2, y3, y4, y5, y6]
           clear hHeld
           have h := L5_01.out V1 Aa ca _ _ Ax cx _ _ g1 hrow hHi hrow2 hHi2 bg1 bz1 bl1 bs1 hS hs hC
           rw [hops.out, hQ.out, ha.out] at h
           try simp only [Act.put, y1, y2, y3, y4, y5, y6] at h
           exact h
         · go_simp
           obtain ⟨V1, hN⟩ : ∃ V : World, V = World.alloc W (.cells #[.int .i64 0, .int .i64 0, .int .i64 0, .int .i64 0, .int .i64 0] 50) := ⟨_, rfl⟩
           rw [← hN]
           have hb : Below W.heap.size W V1 := by rw [hN]; exact (Below.refl _ _).alloc (Nat.le_refl _) _
           have bg0 : Box V1 W.heap.size [.int .i64 0, .int .i64 0, .int .i64 0, .int .i64 0, .int .i64 0] := by rw [hN]; exact box_new W #[.int .i64 0, .int .i64 0, .int .i64 0, .int .i64 0, .int .i64 0] 50
           have bz0 : Fz V1 W.heap.size := by rw [hN]; exact fz_at W #[.int .i64 0, .int .i64 0, .int .i64 0, .int .i64 0, .int .i64 0] 50 _ rfl
           have bl0 : W.heap.size < V1.heap.size := by rw [hN]; simp
           have bs0 : W0.heap.size ≤ W.heap.size := hs
           have bn : W.heap.size ≠ g1 := by omega
           clear hN
           replace hrow := hrow.below hb hHi
           replace hHi := Nat.le_trans hHi hb.size
           replace hrow2 := hrow2.below hb hHi2
           replace hHi2 := Nat.le_trans hHi2 hb.size
           replace bg1 := Box.below bg1 hb bl1
           replace bz1 := Fz.below bz1 hb bl1
           replace bl1 := Nat.lt_of_lt_of_le bl1 hb.size
           replace hS := hSb _ _ hq hb hS
           replace hC := hC.trans (hb.mono hs)
           replace hs := Nat.le_trans hs hb.size
           clear hb
           refine hK.out _ _ hS (fun hHeld => ?_)
           clear hK K
           try simp only [Act.put, y1, y2, y3, y4, y5, y6]
           clear hHeld
           have h := L4_11.out V1 Aa ca _ _ _ W.heap.size g1 hrow hHi hrow2 hHi2 bg0 bz0 bl0 bs0 bg1 bz1 bl1 bs1 bn hS hs hC
           rw [hops.out, hQ.out, ha.out] at h
           try simp only [Act.put, y1, y2, y3, y4, y5, y6] at h
           exact h
        have L4_10 : Hid (∀ (W : World) (Aa : Option Addr) (ca lo Ha lo2 : Nat) (g0 : Nat), (RdSS W lo Ha Aa n0 (rrBool l0)) → (Ha ≤ W.heap.size) → (Rd W lo2 w.heap.size 2 A4 n4 (rRound l4)) → (w.heap.size ≤ W.heap.size) → (Box W g0 [.int .i64 0, .int .i64 0, .int .i64 0, .int .i64 0, .int .i64 0]) → (Fz W g0) → (g0 < W.heap.size) → (W0.heap.size ≤ g0) → (Box W (w.heap.size) [.int .i64 x1_0, .int .i64 x1_1] ∧ Box W (w.heap.size + 1) [.int .i64 x2_0, .int .i64 x2_1, .int .i64 x2_2, .int .i64 x2_3, .int .i64 x2_4] ∧ Box W (w.heap.size + 2) [.int .i64 x3_0, .int .i64 x3_1, .int .i64 x3_2, .int .i64 x3_3, .int .i64 x3_4]) → (W0.heap.size ≤ W.heap.size) → (Below W0.heap.size W0 W) → wpAnyH Try.prog .any ops' Q' (fun W : World => Box W (w.heap.size) [.int .i64 x1_0, .int .i64 x1_1] ∧ Box W (w.heap.size + 1) [.int .i64 x2_0, .int .i64 x2_1, .int .i64 x2_2, .int .i64 x2_3, .int .i64 x2_4] ∧ Box W (w.heap.size + 2) [.int .i64 x3_0, .int .i64 x3_1, .int .i64 x3_2, .int .i64 x3_3, .int .i64 x3_4]) 12 #[true, true, true, true, true, true, true, true, true, false, false, false, false, false, false, false, true, false, false, false, false, false] (Act.put (Act.put (Act.put (Act.put (Act.put a' (some 34) (.slice Aa n0 ca)) (some 36) (.agg #[.int .i64 x1_0, .int .i64 x1_1])) (some 38) (.agg #[.int .i64 x2_0, .int .i64 x2_1, .int .i64 x2_2, .int .i64 x2_3, .int .i64 x2_4])) (some 40) (.agg #[.int .i64 x3_0, .int .i64 x3_1, .int .i64 x3_2, .int .i64 x3_3, .int .i64 x3_4])) (some 12) (.pointer (some ⟨g0, 0, none⟩))) W) := by
         refine hide ?_
         intro W Aa ca lo Ha lo2 g0 hrow hHi hrow2 hHi2 bg0 bz0 bl0 bs0 hS hs hC
         rw [hops.out, hQ.out, ha.out]
         try simp only [Act.put, y1, y2, y3, y4, y5, y6]
         have hq : w.heap.size + 3 ≤ W.heap.size := Nat.le_trans hp hs
         refine wpAnyH_ready (rs := [9, 17]) (by kernel_rfl) (by simp) ?_
         refine AllReadyH.cons rfl (fun K hK => ?_) (AllReadyH.cons rfl (fun K hK => ?_) (AllReadyH.nil))
         · go_simp
           refine (toRoundS_any A4 n4 c4 _ w.heap.size l4 hn4 _ hl4 hrow2 hHi2).mono ?_
           rintro e V1 ⟨vx, rfl, hox, hb⟩
           replace hrow := hrow.below hb hHi
           replace hHi := Nat.le_trans hHi hb.size
           replace hrow2 := hrow2.below hb hHi2
           replace hHi2 := Nat.le_trans hHi2 hb.size
           replace bg0 := Box.below bg0 hb bl0
           replace bz0 := Fz.below bz0 hb bl0
           replace bl0 := Nat.lt_of_lt_of_le bl0 hb.size
           replace hS := hSb _ _ hq hb hS
           replace hC := hC.trans (hb.mono hs)
           replace hs := Nat.le_trans hs hb.size
           obtain ⟨Ax, cx, rfl, _, _, hrx⟩ := hox.rd; clear hox hrow2 hHi2; have hrow2 := hrx; have hHi2 := Nat.le_refl V1.heap.size
           clear hb
           refine hK.out _ _ hS (fun hHeld => ?_)
           clear hK K
           try simp only [Act.put, y1, y2, y3, y4, y5, y6]
           clear hHeld
           have h := L5_10.out V1 Aa ca _ _ Ax cx _ _ g0 hrow hHi hrow2 hHi2 bg0 bz0 bl0 bs0 hS hs hC
           rw [hops.out, hQ.out, ha.out] at h
           try simp only [Act.put, y1, y2, y3, y4, y5, y6] at h
           exact h
         · go_simp
           obtain ⟨V1, hN⟩ : ∃ V : World, V = World.alloc W (.cells #[.int .i64 0, .int .i64 0, .int .i64 0, .int .i64 0, .int .i64 0] 50) := ⟨_, rfl⟩
           rw [← hN]
           have hb : Below W.heap.size W V1 := by rw [hN]; exact (Below.refl _ _).alloc (Nat.le_refl _) _
           have bg1 : Box V1 W.heap.size [.int .i64 0, .int .i64 0, .int .i64 0, .int .i64 0, .int .i64 0] := by rw [hN]; exact box_new W #[.int .i64 0, .int .i64 0, .int .i64 0, .int .i64 0, .int .i64 0] 50
           have bz1 : Fz V1 W.heap.size := by rw [hN]; exact fz_at W #[.int .i64 0, .int .i64 0, .int .i64 0, .int .i64 0, .int .i64 0] 50 _ rfl
           have bl1 : W.heap.size < V1.heap.size := by rw [hN]; simp
           have bs1 : W0.heap.size ≤ W.heap.size := hs
           have bn : g0 ≠ W.heap.size := by omega
           clear hN
           replace hrow := hrow.below hb hHi
           replace hHi := Nat.le_trans hHi hb.size
           replace hrow2 := hrow2.below hb hHi2
           replace hHi2 := Nat.le_trans hHi2 hb.size
           replace bg0 := Box.below bg0 hb bl0
           replace bz0 := Fz.below bz0 hb bl0
           replace bl0 := Nat.lt_of_lt_of_le bl0 hb.size
           replace hS := hSb _ _ hq hb hS
           replace hC := hC.trans (hb.mono hs)
           replace hs := Nat.le_trans hs hb.size
           clear hb
           refine hK.out _ _ hS (fun hHeld => ?_)
           clear hK K
           try simp only [Act.put, y1, y2, y3, y4, y5, y6]
           clear hHeld
           have h := L4_11.out V1 Aa ca _ _ _ g0 W.heap.size hrow hHi hrow2 hHi2 bg0 bz0 bl0 bs0 bg1 bz1 bl1 bs1 bn hS hs hC
           rw [hops.out, hQ.out, ha.out] at h
           try simp only [Act.put, y1, y2, y3, y4, y5, y6] at h
           exact h
        have L4_00 : Hid (∀ (W : World) (Aa : Option Addr) (ca lo Ha lo2 : Nat), (RdSS W lo Ha Aa n0 (rrBool l0)) → (Ha ≤ W.heap.size) → (Rd W lo2 w.heap.size 2 A4 n4 (rRound l4)) → (w.heap.size ≤ W.heap.size) → (Box W (w.heap.size) [.int .i64 x1_0, .int .i64 x1_1] ∧ Box W (w.heap.size + 1) [.int .i64 x2_0, .int .i64 x2_1, .int .i64 x2_2, .int .i64 x2_3, .int .i64 x2_4] ∧ Box W (w.heap.size + 2) [.int .i64 x3_0, .int .i64 x3_1, .int .i64 x3_2, .int .i64 x3_3, .int .i64 x3_4]) → (W0.heap.size ≤ W.heap.size) → (Below W0.heap.size W0 W) → wpAnyH Try.prog .any ops' Q' (fun W : World => Box W (w.heap.size) [.int .i64 x1_0, .int .i64 x1_1] ∧ Box W (w.heap.size + 1) [.int .i64 x2_0, .int .i64 x2_1, .int .i64 x2_2, .int .i64 x2_3, .int .i64 x2_4] ∧ Box W (w.heap.size + 2) [.int .i64 x3_0, .int .i64 x3_1, .int .i64 x3_2, .int .i64 x3_3, .int .i64 x3_4]) 13 #[true, true, true, true, true, true, true, true, true, false, false, false, false, false, false, false, false, false, false, false, false, false] (Act.put (Act.put (Act.put (Act.put a' (some 34) (.slice Aa n0 ca)) (some 36) (.agg #[.int .i64 x1_0, .int .i64 x1_1])) (some 38) (.agg #[.int .i64 x2_0, .int .i64 x2_1, .int .i64 x2_2, .int .i64 x2_3, .int .i64 x2_4])) (some 40) (.agg #[.int .i64 x3_0, .int .i64 x3_1, .int .i64 x3_2, .int .i64 x3_3, .int .i64 x3_4])) W) := by
         refine hide ?_
         intro W Aa ca lo Ha lo2 hrow hHi hrow2 hHi2 hS hs hC
         rw [hops.out, hQ.out, ha.out]
         try simp only [Act.put, y1, y2, y3, y4, y5, y6]
         have hq : w.heap.size + 3 ≤ W.heap.size := Nat.le_trans hp hs
         refine wpAnyH_ready (rs := [9, 16, 17]) (by kernel_rfl) (by simp) ?_
         refine AllReadyH.cons rfl (fun K hK => ?_) (AllReadyH.cons rfl (fun K hK => ?_) (AllReadyH.cons rfl (fun K hK => ?_) (AllReadyH.nil)))
         · go_simp
           refine (toRoundS_any A4 n4 c4 _ w.heap.size l4 hn4 _ hl4 hrow2 hHi2).mono ?_
           rintro e V1 ⟨vx, rfl, hox, hb⟩
           replace hrow := hrow.below hb hHi
           replace hHi := Nat.le_trans hHi hb.size
           replace hrow2 := hrow2.below hb hHi2
           replace hHi2 := Nat.le_trans hHi2 hb.size
           replace hS := hSb _ _ hq hb hS
           replace hC := hC.trans (hb.mono hs)
           replace hs := Nat.le_trans hs hb.size
           obtain ⟨Ax, cx, rfl, _, _, hrx⟩ := hox.rd; clear hox hrow2 hHi2; have hrow2 := hrx; have hHi2 := Nat.le_refl V1.heap.size
           clear hb
           refine hK.out _ _ hS (fun hHeld => ?_)
           clear hK K
           try simp only [Act.put, y1, y2, y3, y4, y5, y6]
           clear hHeld
           have h := L5_00.out V1 Aa ca _ _ Ax cx _ _ hrow hHi hrow2 hHi2 hS hs hC
           rw [hops.out, hQ.out, ha.out] at h
           try simp only [Act.put, y1, y2, y3, y4, y5, y6] at h
           exact h
         · go_simp
           obtain ⟨V1, hN⟩ : ∃ V : World, V = World.alloc W (.cells #[.int .i64 0, .int .i64 0, .int .i64 0, .int .i64 0, .int .i64 0] 50) := ⟨_, rfl⟩
           rw [← hN]
           have hb : Below W.heap.size W V1 := by rw [hN]; exact (Below.refl _ _).alloc (Nat.le_refl _) _
           have bg0 : Box V1 W.heap.size [.int .i64 0, .int .i64 0, .int .i64 0, .int .i64 0, .int .i64 0] := by rw [hN]; exact box_new W #[.int .i64 0, .int .i64 0, .int .i64 0, .int .i64 0, .int .i64 0] 50
           have bz0 : Fz V1 W.heap.size := by rw [hN]; exact fz_at W #[.int .i64 0, .int .i64 0, .int .i64 0, .int .i64 0, .int .i64 0] 50 _ rfl
           have bl0 : W.heap.size < V1.heap.size := by rw [hN]; simp
           have bs0 : W0.heap.size ≤ W.heap.size := hs
           clear hN
           replace hrow := hrow.below hb hHi
           replace hHi := Nat.le_trans hHi hb.size
           replace hrow2 := hrow2.below hb hHi2
           replace hHi2 := Nat.le_trans hHi2 hb.size
           replace hS := hSb _ _ hq hb hS
           replace hC := hC.trans (hb.mono hs)
           replace hs := Nat.le_trans hs hb.size
           clear hb
           refine hK.out _ _ hS (fun hHeld => ?_)
           clear hK K
           try simp only [Act.put, y1, y2, y3, y4, y5, y6]
           clear hHeld
           have h := L4_10.out V1 Aa ca _ _ _ W.heap.size hrow hHi hrow2 hHi2 bg0 bz0 bl0 bs0 hS hs hC
           rw [hops.out, hQ.out, ha.out] at h
           try simp only [Act.put, y1, y2, y3, y4, y5, y6] at h
           exact h
         · go_simp
           obtain ⟨V1, hN⟩ : ∃ V : World, V = World.alloc W (.cells #[.int .i64 0, .int .i64 0, .int .i64 0, .int .i64 0, .int .i64 0] 50) := ⟨_, rfl⟩
           rw [← hN]
           have hb : Below W.heap.size W V1 := by rw [hN]; exact (Below.refl _ _).alloc (Nat.le_refl _) _
           have bg1 : Box V1 W.heap.size [.int .i64 0, .int .i64 0, .int .i64 0, .int .i64 0, .int .i64 0] := by rw [hN]; exact box_new W #[.int .i64 0, .int .i64 0, .int .i64 0, .int .i64 0, .int .i64 0] 50
           have bz1 : Fz V1 W.heap.size := by rw [hN]; exact fz_at W #[.int .i64 0, .int .i64 0, .int .i64 0, .int .i64 0, .int .i64 0] 50 _ rfl
           have bl1 : W.heap.size < V1.heap.size := by rw [hN]; simp
           have bs1 : W0.heap.size ≤ W.heap.size := hs
           clear hN
           replace hrow := hrow.below hb hHi
           replace hHi := Nat.le_trans hHi hb.size
           replace hrow2 := hrow2.below hb hHi2
           replace hHi2 := Nat.le_trans hHi2 hb.size
           replace hS := hSb _ _ hq hb hS
           replace hC := hC.trans (hb.mono hs)
           replace hs := Nat.le_trans hs hb.size
           clear hb
           refine hK.out _ _ hS (fun hHeld => ?_)
           clear hK K
           try simp only [Act.put, y1, y2, y3, y4, y5, y6]
           clear hHeld
           have h := L4_01.out V1 Aa ca _ _ _ W.heap.size hrow hHi hrow2 hHi2 bg1 bz1 bl1 bs1 hS hs hC
           rw [hops.out, hQ.out, ha.out] at h
           try simp only [Act.put, y1, y2, y3, y4, y5, y6] at h
           exact h
        have L3_11 : Hid (∀ (W : World) (Aa : Option Addr) (ca lo Ha lo2 : Nat) (g0 : Nat) (g1 : Nat), (RdSS W lo Ha Aa n0 (rrBool l0)) → (Ha ≤ W.heap.size) → (Rd W lo2 w.heap.size 2 A4 n4 (rRound l4)) → (w.heap.size ≤ W.heap.size) → (Box W g0 [.int .i64 0, .int .i64 0, .int .i64 0, .int .i64 0, .int .i64 0]) → (Fz W g0) → (g0 < W.heap.size) → (W0.heap.size ≤ g0) → (Box W g1 [.int .i64 0, .int .i64 0, .int .i64 0, .int .i64 0, .int .i64 0]) → (Fz W g1) → (g1 < W.heap.size) → (W0.heap.size ≤ g1) → (g0 ≠ g1) → (Box W (w.heap.size) [.int .i64 x1_0, .int .i64 x1_1] ∧ Box W (w.heap.size + 1) [.int .i64 x2_0, .int .i64 x2_1, .int .i64 x2_2, .int .i64 x2_3, .int .i64 x2_4] ∧ Box W (w.heap.size + 2) [.int .i64 x3_0, .int .i64 x3_1, .int .i64 x3_2, .int .i64 x3_3, .int .i64 x3_4]) → (W0.heap.size ≤ W.heap.size) → (Below W0.heap.size W0 W) → wpAnyH Try.prog .any ops' Q' (fun W : World => Box W (w.heap.size) [.int .i64 x1_0, .int .i64 x1_1] ∧ Box W (w.heap.size + 1) [.int .i64 x2_0, .int .i64 x2_1, .int .i64 x2_2, .int .i64 x2_3, .int .i64 x2_4] ∧ Box W (w.heap.size + 2) [.int .i64 x3_0, .int .i64 x3_1, .int .i64 x3_2, .int .i64 x3_3, .int .i64 x3_4]) 12 #[true, true, true, true, true, true, true, false, true, false, false, false, false, false, false, false, true, true, false, false, false, false] (Act.put (Act.put (Act.put (Act.put (Act.put a' (some 34) (.slice Aa n0 ca)) (some 36) (.agg #[.int .i64 x1_0, .int .i64 x1_1])) (some 38) (.agg #[.int .i64 x2_0, .int .i64 x2_1, .int .i64 x2_2, .int .i64 x2_3, .int .i64 x2_4])) (some 12) (.pointer (some ⟨g0, 0, none⟩))) (some 13) (.pointer (some ⟨g1, 0, none⟩))) W) := by
         refine hide ?_
         intro W Aa ca lo Ha lo2 g0 g1 hrow hHi hrow2 hHi2 bg0 bz0 bl0 bs0 bg1 bz1 bl1 bs1 bn hS hs hC
         rw [hops.out, hQ.out, ha.out]
         try simp only [Act.put, y1, y2, y3, y4, y5, y6]
         have hq : w.heap.size + 3 ≤ W.heap.size := Nat.le_trans hp hs
         refine wpAnyH_ready (rs := [7]) (by kernel_rfl) (by simp) ?_
         refine AllReadyH.cons rfl (fun K hK => ?_) (AllReadyH.nil)
         · go_simp
           refine (toControl_any x3_0 x3_1 x3_2 x3_3 x3_4 _).mono ?_
           rintro e V1 ⟨rfl, hb⟩
           replace hrow := hrow.below hb hHi
           replace hHi := Nat.le_trans hHi hb.size
           replace hrow2 := hrow2.below hb hHi2
           replace hHi2 := Nat.le_trans hHi2 hb.size
           replace bg0 := Box.below bg0 hb bl0
           replace bz0 := Fz.below bz0 hb bl0
           replace bl0 := Nat.lt_of_lt_of_le bl0 hb.size
           replace bg1 := Box.below bg1 hb bl1
           replace bz1 := Fz.below bz1 hb bl1
           replace bl1 := Nat.lt_of_lt_of_le bl1 hb.size
           replace hS := hSb _ _ hq hb hS
           replace hC := hC.trans (hb.mono hs)
           replace hs := Nat.le_trans hs hb.size
           clear hb
           refine hK.out _ _ hS (fun hHeld => ?_)
           clear hK K
           try simp only [Act.put, y1, y2, y3, y4, y5, y6]
           clear hHeld
           have h := L4_11.out V1 Aa ca _ _ _ g0 g1 hrow hHi hrow2 hHi2 bg0 bz0 bl0 bs0 bg1 bz1 bl1 bs1 bn hS hs hC
           rw [hops.out, hQ.out, ha.out] at h
           try simp only [Act.put, y1, y2, y3, y4, y5, y6] at h
           exact h
        have L3_01 : Hid (∀ (W : World) (Aa : Option Addr) (ca lo Ha lo2 : Nat) (g1 : Nat), (RdSS W lo Ha Aa n0 (rrBool l0)) → (Ha ≤ W.heap.size) → (Rd W lo2 w.heap.size 2 A4 n4 (rRound l4)) → (w.heap.size ≤ W.heap.size) → (Box W g1 [.int .i64 0, .int .i64 0, .int .i64 0, .int .i64 0, .int .i64 0]) → (Fz W g1) → (g1 < W.heap.size) → (W0.heap.size ≤ g1) → (Box W (w.heap.size) [.int .i64 x1_0, .int .i64 x1_1] ∧ Box W (w.heap.size + 1) [.int .i64 x2_0, .int .i64 x2_1, .int .i64 x2_2, .int .i64 x2_3, .int .i64 x2_4] ∧ Box W (w.heap.size + 2) [.int .i64 x3_0, .int .i64 x3_1, .int .i64 x3_2, .int .i64 x3_3, .int .i64 x3_4]) → (W0.heap.size ≤ W.heap.size) → (Below W0.heap.size W0 W) → wpAnyH Try.prog .any ops' Q' (fun W : World => Box W (w.heap.size) [.int .i64 x1_0, .int .i64 x1_1] ∧ Box W (w.heap.size + 1) [.int .i64 x2_0, .int .i64 x2_1, .int .i64 x2_2, .int .i64 x2_3, .int .i64 x2_4] ∧ Box W (w.heap.size + 2) [.int .i64 x3_0, .int .i64 x3_1, .int .i64 x3_2, .int .i64 x3_3, .int .i64 x3_4]) 13 #[true, true, true, true, true, true, true, false, true, false, false, false, false, false, false, false, false, true, false, false, false, false] (Act.put (Act.put (Act.put (Act.put a' (some 34) (.slice Aa n0 ca)) (some 36) (.agg #[.int .i64 x1_0, .int .i64 x1_1])) (some 38) (.agg #[.int .i64 x2_0, .int .i64 x2_1, .int .i64 x2_2, .int .i64 x2_3, .int .i64 x2_4])) (some 13) (.pointer (some ⟨g1, 0, none⟩))) W) := by
         refine hide ?_
         intro W Aa ca lo Ha lo2 g1 hrow hHi hrow2 hHi2 bg1 bz1 bl1 bs1 hS hs hC
         rw [hops.out, hQ.out, ha.out]
         try simp only [Act.put, y1, y2, y3, y4, y5, y6]
         have hq : w.heap.size + 3 ≤ W.heap.size := Nat.le_trans hp hs
         refine wpAnyH_ready (rs := [7, 16]) (by kernel_rfl) (by simp) ?_
         refine AllReadyH.cons rfl (fun K hK => ?_) (AllReadyH.cons rfl (fun K hK => ?_) (AllReadyH.nil))
         · go_simp
           refine (toControl_any x3_0 x3_1 x3_2 x3_3 x3_4 _).mono ?_
           rintro e V1 ⟨rfl, hb⟩
           replace hrow := hrow.below hb hHi
           replace hHi := Nat.le_trans hHi hb.size
           replace hrow2 := hrow2.below hb hHi2
           replace hHi2 := Nat.le_trans hHi2 hb.size
           replace bg1 := Box.below bg1 hb bl1
           replace bz1 := Fz.below bz1 hb bl1
           replace bl1 := Nat.lt_of_lt_of_le bl1 hb.size
           replace hS := hSb _ _ hq hb hS
           replace hC := hC.trans (hb.mono hs)
           replace hs := Nat.le_trans hs hb.size
           clear hb
           refine hK.out _ _ hS (fun hHeld => ?_)
           clear hK K
           try simp only [Act.put, y1, y2, y3, y4, y5, y6]
           clear hHeld
           have h := L4_01.out V1 Aa ca _ _ _ g1 hrow hHi hrow2 hHi2 bg1 bz1 bl1 bs1 hS hs hC
           rw [hops.out, hQ.out, ha.out] at h
           try simp only [Act.put, y1, y2, y3, y4, y5, y6] at h
           exact h
         · go_simp
           obtain ⟨V1, hN⟩ : ∃ V : World, V = World.alloc W (.cells #[.int .i64 0, .int .i64 0, .int .i64 0, .int .i64 0, .int .i64 0] 50) := ⟨_, rfl⟩
           rw [← hN]
           have hb : Below W.heap.size W V1 := by rw [hN]; exact (Below.refl _ _).alloc (Nat.le_refl _) _
           have bg0 : Box V1 W.heap.size [.int .i64 0, .int .i64 0, .int .i64 0, .int .i64 0, .int .i64 0] := by rw [hN]; exact box_new W #[.int .i64 0, .int .i64 0, .int .i64 0, .int .i64 0, .int .i64 0] 50
           have bz0 : Fz V1 W.heap.size := by rw [hN]; exact fz_at W #[.int .i64 0, .int .i64 0, .int .i64 0, .int .i64 0, .int .i64 0] 50 _ rfl
           have bl0 : W.heap.size < V1.heap.size := by rw [hN]; simp
           have bs0 : W0.heap.size ≤ W.heap.size := hs
           have bn : W.heap.size ≠ g1 := by omega
           clear hN
           replace hrow := hrow.below hb hHi
           replace hHi := Nat.le_trans hHi hb.size
           replace hrow2 := hrow2.below hb hHi2
           replace hHi2 := Nat.le_trans hHi2 hb.size
           replace bg1 := Box.below bg1 hb bl1
           replace bz1 := Fz.below bz1 hb bl1
           replace bl1 := Nat.lt_of_lt_of_le bl1 hb.size
           replace hS := hSb _ _ hq hb hS
           replace hC := hC.trans (hb.mono hs)
           replace hs := Nat.le_trans hs hb.size
           clear hb
           refine hK.out _ _ hS (fun hHeld => ?_)
           clear hK K
           try simp only [Act.put, y1, y2, y3, y4, y5, y6]
           clear hHeld
           have h := L3_11.out V1 Aa ca _ _ _ W.heap.size g1 hrow hHi hrow2 hHi2 bg0 bz0 bl0 bs0 bg1 bz1 bl1 bs1 bn hS hs hC
           rw [hops.out, hQ.out, ha.out] at h
           try simp only [Act.put, y1, y2, y3, y4, y5, y6] at h
           exact h
        have L3_10 : Hid (∀ (W : World) (Aa : Option Addr) (ca lo Ha lo2 : Nat) (g0 : Nat), (RdSS W lo Ha Aa n0 (rrBool l0)) → (Ha ≤ W.heap.size) → (Rd W lo2 w.heap.size 2 A4 n4 (rRound l4)) → (w.heap.size ≤ W.heap.size) → (Box W g0 [.int .i64 0, .int .i64 0, .int .i64 0, .int .i64 0, .int .i64 0]) → (Fz W g0) → (g0 < W.heap.size) → (W0.heap.size ≤ g0) → (Box W (w.heap.size) [.int .i64 x1_0, .int .i64 x1_1] ∧ Box W (w.heap.size + 1) [.int .i64 x2_0, .int .i64 x2_1, .int .i64 x2_2, .int .i64 x2_3, .int .i64 x2_4] ∧ Box W (w.heap.size + 2) [.int .i64 x3_0, .int .i64 x3_1, .int .i64 x3_2, .int .i64 x3_3, .int .i64 x3_4]) → (W0.heap.size ≤ W.heap.size) → (Below W0.heap.size W0 W) → wpAnyH Try.prog .any ops' Q' (fun W : World => Box W (w.heap.size) [.int .i64 x1_0, .int .i64 x1_1] ∧ Box W (w.heap.size + 1) [.int .i64 x2_0, .int .i64 x2_1, .int .i64 x2_2, .int .i64 x2_3, .int .i64 x2_4] ∧ Box W (w.heap.size + 2) [.int .i64 x3_0, .int .i64 x3_1, .int .i64 x3_2, .int .i64 x3_3, .int .i64 x3_4]) 13 #[true, true, true, true, true, true, true, false, true, false, false, false, false, false, false, false, true, false, false, false, false, false] (Act.put (Act.put (Act.put (Act.put a' (some 34) (.slice Aa n0 ca)) (some 36) (.agg #[.int .i64 x1_0, .int .i64 x1_1])) (some 38) (.agg #[.int .i64 x2_0, .int .i64 x2_1, .int .i64 x2_2, .int .i64 x2_3, .int .i64 x2_4])) (some 12) (.pointer (some ⟨g0, 0, none⟩))) W) := by
         refine hide ?_
         intro W Aa ca lo Ha lo2 g0 hrow hHi hrow2 hHi2 bg0 bz0 bl0 bs0 hS hs hC
         rw [hops.out, hQ.out, ha.out]
         try simp only [Act.put, y1, y2, y3, y4, y5, y6]
         have hq : w.heap.size + 3 ≤ W.heap.size := Nat.le_trans hp hs
         refine wpAnyH_ready (rs := [7, 17]) (by kernel_rfl) (by simp) ?_
         refine AllReadyH.cons rfl (fun K hK => ?_) (AllReadyH.cons rfl (fun K hK => ?_) (AllReadyH.nil))
         · go_simp
           refine (toControl_any x3_0 x3_1 x3_2 x3_3 x3_4 _).mono ?_
           rintro e V1 ⟨rfl, hb⟩
           replace hrow := hrow.below hb hHi
           replace hHi := Nat.le_trans hHi hb.size
           replace hrow2 := hrow2.below hb hHi2
           replace hHi2 := Nat.le_trans hHi2 hb.size
           replace bg0 := Box.below bg0 hb bl0
           replace bz0 := Fz.below bz0 hb bl0
           replace bl0 := Nat.lt_of_lt_of_le bl0 hb.size
           replace hS := hSb _ _ hq hb hS
           replace hC := hC.trans (hb.mono hs)
           replace hs := Nat.le_trans hs hb.size
           clear hb
           refine hK.out _ _ hS (fun hHeld => ?_)
           clear hK K
           try simp only [Act.put, y1, y2, y3, y4, y5, y6]
           clear hHeld
           have h := L4_10.out V1 Aa ca _ _ _ g0 hrow hHi hrow2 hHi2 bg0 bz0 bl0 bs0 hS hs hC
           rw [hops.out, hQ.out, ha.out] at h
           try simp only [Act.put, y1, y2, y3, y4, y5, y6] at h
           exact h
         · go_simp
           obtain ⟨V1, hN⟩ : ∃ V : World, V = World.alloc W (.cells #[.int .i64 0, .int .i64 0, .int .i64 0, .int .i64 0, .int .i64 0] 50) := ⟨_, rfl⟩
           rw [← hN]
           have hb : Below W.heap.size W V1 := by rw [hN]; exact (Below.refl _ _).alloc (Nat.le_refl _) _
           have bg1 : Box V1 W.heap.size [.int .i64 0, .int .i64 0, .int .i64 0, .int .i64 0, .int .i64 0] := by rw [hN]; exact box_new W #[.int .i64 0, .int .i64 0, .int .i64 0, .int .i64 0, .int .i64 0] 50
           have bz1 : Fz V1 W.heap.size := by rw [hN]; exact fz_at W #[.int .i64 0, .int .i64 0, .int .i64 0, .int .i64 0, .int .i64 0] 50 _ rfl
           have bl1 : W.heap.size < V1.heap.size := by rw [hN]; simp
           have bs1 : W0.heap.size ≤ W.heap.size := hs
           have bn : g0 ≠ W.heap.size := by omega
           clear hN
           replace hrow := hrow.below hb hHi
           replace hHi := Nat.le_trans hHi hb.size
           replace hrow2 := hrow2.below hb hHi2
           replace hHi2 := Nat.le_trans hHi2 hb.size
           replace bg0 := Box.below bg0 hb bl0
           replace bz0 := Fz.below bz0 hb bl0
           replace bl0 := Nat.lt_of_lt_of_le bl0 hb.size
           replace hS := hSb _ _ hq hb hS
           replace hC := hC.trans (hb.mono hs)
           replace hs := Nat.le_trans hs hb.size
           clear hb
           refine hK.out _ _ hS (fun hHeld => ?_)
           clear hK K
           try simp only [Act.put, y1, y2, y3, y4, y5, y6]
           clear hHeld
           have h := L3_11.out V1 Aa ca _ _ _ g0 W.heap.size hrow hHi hrow2 hHi2 bg0 bz0 bl0 bs0 bg1 bz1 bl1 bs1 bn hS hs hC
           rw [hops.out, hQ.out, ha.out] at h
           try simp only [Act.put, y1, y2, y3, y4, y5, y6] at h
           exact h
        have L3_00 : Hid (∀ (W : World) (Aa : Option Addr) (ca lo Ha lo2 : Nat), (RdSS W lo Ha Aa n0 (rrBool l0)) → (Ha ≤ W.heap.size) → (Rd W lo2 w.heap.size 2 A4 n4 (rRound l4)) → (w.heap.size ≤ W.heap.size) → (Box W (w.heap.size) [.int .i64 x1_0, .int .i64 x1_1] ∧ Box W (w.heap.size + 1) [.int .i64 x2_0, .int .i64 x2_1, .int .i64 x2_2, .int .i64 x2_3, .int .i64 x2_4] ∧ Box W (w.heap.size + 2) [.int .i64 x3_0, .int .i64 x3_1, .int .i64 x3_2, .int .i64 x3_3, .int .i64 x3_4]) → (W0.heap.size ≤ W.heap.size) → (Below W0.heap.size W0 W) → wpAnyH Try.prog .any ops' Q' (fun W : World => Box W (w.heap.size) [.int .i64 x1_0, .int .i64 x1_1] ∧ Box W (w.heap.size + 1) [.int .i64 x2_0, .int .i64 x2_1, .int .i64 x2_2, .int .i64 x2_3, .int .i64 x2_4] ∧ Box W (w.heap.size + 2) [.int .i64 x3_0, .int .i64 x3_1, .int .i64 x3_2, .int .i64 x3_3, .int .i64 x3_4]) 14 #[true, true, true, true, true, true, true, false, true, false, false, false, false, false, false, false, false, false, false, false, false, false] (Act.put (Act.put (Act.put a' (some 34) (.slice Aa n0 ca)) (some 36) (.agg #[.int .i64 x1_0, .int .i64 x1_1])) (some 38) (.agg #[.int .i64 x2_0, .int .i64 x2_1, .int .i64 x2_2, .int .i64 x2_3, .int .i64 x2_4])) W) := by
         refine hide ?_
         intro W Aa ca lo Ha lo2 hrow hHi hrow2 hHi2 hS hs hC
         rw [hops.out, hQ.out, ha.out]
         try simp only [Act.put, y1, y2, y3, y4, y5, y6]
         have hq : w.heap.size + 3 ≤ W.heap.size := Nat.le_trans hp hs
         refine wpAnyH_ready (rs := [7, 16, 17]) (by kernel_rfl) (by simp) ?_
         refine AllReadyH.cons rfl (fun K hK => ?_) (AllReadyH.cons rfl (fun K hK => ?_) (AllReadyH.cons rfl (fun K hK => ?_) (AllReadyH.nil)))
         · go_simp
           refine (toControl_any x3_0 x3_1 x3_2 x3_3 x3_4 _).mono ?_
           rintro e V1 ⟨rfl, hb⟩
           replace hrow := hrow.below hb hHi
           replace hHi := Nat.le_trans hHi hb.size
           replace hrow2 := hrow2.below hb hHi2
           replace hHi2 := Nat.le_trans hHi2 hb.size
           replace hS := hSb _ _ hq hb hS
           replace hC := hC.trans (hb.mono hs)
           replace hs := Nat.le_trans hs hb.size
           clear hb
           refine hK.out _ _ hS (fun hHeld => ?_)
           clear hK K
           try simp only [Act.put, y1, y2, y3, y4, y5, y6]
           clear hHeld
           have h := L4_00.out V1 Aa ca _ _ _ hrow hHi hrow2 hHi2 hS hs hC
           rw [hops.out, hQ.out, ha.out] at h
           try simp only [Act.put, y1, y2, y3, y4, y5, y6] at h
           exact h
         · go_simp
           obtain ⟨V1, hN⟩ : ∃ V : World, V = World.alloc W (.cells #[.int .i64 0, .int .i64 0, .int .i64 0, .int .i64 0, .int .i64 0] 50) := ⟨_, rfl⟩
           rw [← hN]
           have hb : Below W.heap.size W V1 := by rw [hN]; exact (Below.refl _ _).alloc (Nat.le_refl _) _
           have bg0 : Box V1 W.heap.size [.int .i64 0, .int .i64 0, .int .i64 0, .int .i64 0, .int .i64 0] := by rw [hN]; exact box_new W #[.int .i64 0, .int .i64 0, .int .i64 0, .int .i64 0, .int .i64 0] 50
           have bz0 : Fz V1 W.heap.size := by rw [hN]; exact fz_at W #[.int .i64 0, .int .i64 0, .int .i64 0, .int .i64 0, .int .i64 0] 50 _ rfl
           have bl0 : W.heap.size < V1.heap.size := by rw [hN]; simp
           have bs0 : W0.heap.size ≤ W.heap.size := hs
           clear hN
           replace hrow := hrow.below hb hHi
           replace hHi := Nat.le_trans hHi hb.size
           replace hrow2 := hrow2.below hb hHi2
           replace hHi2 := Nat.le_trans hHi2 hb.size
           replace hS := hSb _ _ hq hb hS
           replace hC := hC.trans (hb.mono hs)
           replace hs := Nat.le_trans hs hb.size
           clear hb
           refine hK.out _ _ hS (fun hHeld => ?_)
           clear hK K
           try simp only [Act.put, y1, y2, y3, y4, y5, y6]
           clear hHeld
           have h := L3_10.out V1 Aa ca _ _ _ W.heap.size hrow hHi hrow2 hHi2 bg0 bz0 bl0 bs0 hS hs hC
           rw [hops.out, hQ.out, ha.out] at h
           try simp only [Act.put, y1, y2, y3, y4, y5, y6] at h
           exact h
         · go_simp
           obtain ⟨V1, hN⟩ : ∃ V : World, V = World.alloc W (.cells #[.int .i64 0, .int .i64 0, .int .i64 0, .int .i64 0, .int .i64 0] 50) := ⟨_, rfl⟩
           rw [← hN]
           have hb : Below W.heap.size W V1 := by rw [hN]; exact (Below.refl _ _).alloc (Nat.le_refl _) _
           have bg1 : Box V1 W.heap.size [.int .i64 0, .int .i64 0, .int .i64 0, .int .i64 0, .int .i64 0] := by rw [hN]; exact box_new W #[.int .i64 0, .int .i64 0, .int .i64 0, .int .i64 0, .int .i64 0] 50
           have bz1 : Fz V1 W.heap.size := by rw [hN]; exact fz_at W #[.int .i64 0, .int .i64 0, .int .i64 0, .int .i64 0, .int .i64 0] 50 _ rfl
           have bl1 : W.heap.size < V1.heap.size := by rw [hN]; simp
           have bs1 : W0.heap.size ≤ W.heap.size := hs
           clear hN
           replace hrow := hrow.below hb hHi
           replace hHi := Nat.le_trans hHi hb.size
           replace hrow2 := hrow2.below hb hHi2
           replace hHi2 := Nat.le_trans hHi2 hb.size
           replace hS := hSb _ _ hq hb hS
           replace hC := hC.trans (hb.mono hs)
           replace hs := Nat.le_trans hs hb.size
           clear hb
           refine hK.out _ _ hS (fun hHeld => ?_)
           clear hK K
           try simp only [Act.put, y1, y2, y3, y4, y5, y6]
           clear hHeld
           have h := L3_01.out V1 Aa ca _ _ _ W.heap.size hrow hHi hrow2 hHi2 bg1 bz1 bl1 bs1 hS hs hC
           rw [hops.out, hQ.out, ha.out] at h
           try simp only [Act.put, y1, y2, y3, y4, y5, y6] at h
           exact h
        have L2_11 : Hid (∀ (W : World) (Aa : Option Addr) (ca lo Ha lo2 : Nat) (g0 : Nat) (g1 : Nat), (RdSS W lo Ha Aa n0 (rrBool l0)) → (Ha ≤ W.heap.size) → (Rd W lo2 w.heap.size 2 A4 n4 (rRound l4)) → (w.heap.size ≤ W.heap.size) → (Box W g0 [.int .i64 0, .int .i64 0, .int .i64 0, .int .i64 0, .int .i64 0]) → (Fz W g0) → (g0 < W.heap.size) → (W0.heap.size ≤ g0) → (Box W g1 [.int .i64 0, .int .i64 0, .int .i64 0, .int .i64 0, .int .i64 0]) → (Fz W g1) → (g1 < W.heap.size) → (W0.heap.size ≤ g1) → (g0 ≠ g1) → (Box W (w.heap.size) [.int .i64 x1_0, .int .i64 x1_1] ∧ Box W (w.heap.size + 1) [.int .i64 x2_0, .int .i64 x2_1, .int .i64 x2_2, .int .i64 x2_3, .int .i64 x2_4] ∧ Box W (w.heap.size + 2) [.int .i64 x3_0, .int .i64 x3_1, .int .i64 x3_2, .int .i64 x3_3, .int .i64 x3_4]) → (W0.heap.size ≤ W.heap.size) → (Below W0.heap.size W0 W) → wpAnyH Try.prog .any ops' Q' (fun W : World => Box W (w.heap.size) [.int .i64 x1_0, .int .i64 x1_1] ∧ Box W (w.heap.size + 1) [.int .i64 x2_0, .int .i64 x2_1, .int .i64 x2_2, .int .i64 x2_3, .int .i64 x2_4] ∧ Box W (w.heap.size + 2) [.int .i64 x3_0, .int .i64 x3_1, .int .i64 x3_2, .int .i64 x3_3, .int .i64 x3_4]) 13 #[true, true, true, true, true, false, true, false, true, false, false, false, false, false, false, false, true, true, false, false, false, false] (Act.put (Act.put (Act.put (Act.put a' (some 34) (.slice Aa n0 ca)) (some 36) (.agg #[.int .i64 x1_0, .int .i64 x1_1])) (some 12) (.pointer (some ⟨g0, 0, none⟩))) (some 13) (.pointer (some ⟨g1, 0, none⟩))) W) := by
         refine hide ?_
         intro W Aa ca lo Ha lo2 g0 g1 hrow hHi hrow2 hHi2 bg0 bz0 bl0 bs0 bg1 bz1 bl1 bs1 bn hS hs hC
         rw [hops.out, hQ.out, ha.out]
         try simp only [Act.put, y1, y2, y3, y4, y5, y6]
         have hq : w.heap.size + 3 ≤ W.heap.size := Nat.le_trans hp hs
         refine wpAnyH_ready (rs := [5]) (by kernel_rfl) (by simp) ?_
         refine AllReadyH.cons rfl (fun K hK => ?_) (AllReadyH.nil)
         · go_simp
           refine (toControl_any x2_0 x2_1 x2_2 x2_3 x2_4 _).mono ?_
           rintro e V1 ⟨rfl, hb⟩
           replace hrow := hrow.below hb hHi
           replace hHi := Nat.le_trans hHi hb.size
           replace hrow2 := hrow2.below hb hHi2
           replace hHi2 := Nat.le_trans hHi2 hb.size
           replace bg0 := Box.below bg0 hb bl0
           replace bz0 := Fz.below bz0 hb bl0
           replace bl0 := Nat.lt_of_lt_of_le bl0 hb.size
           replace bg1 := Box.below bg1 hb bl1
           replace bz1 := Fz.below bz1 hb bl1
           replace bl1 := Nat.lt_of_lt_of_le bl1 hb.size
           replace hS := hSb _ _ hq hb hS
           replace hC := hC.trans (hb.mono hs)
           replace hs := Nat.le_trans hs hb.size
           clear hb
           refine hK.out _ _ hS (fun hHeld => ?_)
           clear hK K
           try simp only [Act.put, y1, y2, y3, y4, y5, y6]
           clear hHeld
           have h := L3_11.out V1 Aa ca _ _ _ g0 g1 hrow hHi hrow2 hHi2 bg0 bz0 bl0 bs0 bg1 bz1 bl1 bs1 bn hS hs hC
           rw [hops.out, hQ.out, ha.out] at h
           try simp only [Act.put, y1, y2, y3, y4, y5, y6] at h
           exact h
        have L2_01 : Hid (∀ (W : World) (Aa : Option Addr) (ca lo Ha lo2 : Nat) (g1 : Nat), (RdSS W lo Ha Aa n0 (rrBool l0)) → (Ha ≤ W.heap.size) → (Rd W lo2 w.heap.size 2 A4 n4 (rRound l4)) → (w.heap.size ≤ W.heap.size) → (Box W g1 [.int .i64 0, .int .i64 0, .int .i64 0, .int .i64 0, .int .i64 0]) → (Fz W g1) → (g1 < W.heap.size) → (W0.heap.size ≤ g1) → (Box W (w.heap.size) [.int .i64 x1_0, .int .i64 x1_1] ∧ Box W (w.heap.size + 1) [.int .i64 x2_0, .int .i64 x2_1, .int .i64 x2_2, .int .i64 x2_3, .int .i64 x2_4] ∧ Box W (w.heap.size + 2) [.int .i64 x3_0, .int .i64 x3_1, .int .i64 x3_2, .int .i64 x3_3, .int .i64 x3_4]) → (W0.heap.size ≤ W.heap.size) → (Below W0.heap.size W0 W) → wpAnyH Try.prog .any ops' Q' (fun W : World => Box W (w.heap.size) [.int .i64 x1_0, .int .i64 x1_1] ∧ Box W (w.heap.size + 1) [.int .i64 x2_0, .int .i64 x2_1, .int .i64 x2_2, .int .i64 x2_3, .int .i64 x2_4] ∧ Box W (w.heap.size + 2) [.int .i64 x3_0, .int .i64 x3_1, .int .i64 x3_2, .int .i64 x3_3, .int .i64 x3_4]) 14 #[true, true, true, true, true, false, true, false, true, false, false, false, false, false, false, false, false, true, false, false, false, false] (Act.put (Act.put (Act.put a' (some 34) (.slice Aa n0 ca)) (some 36) (.agg #[.int .i64 x1_0, .int .i64 x1_1])) (some 13) (.pointer (some ⟨g1, 0, none⟩))) W) := by
         refine hide ?_
         intro W Aa ca lo Ha lo2 g1 hrow hHi hrow2 hHi2 bg1 bz1 bl1 bs1 hS hs hC
         rw [hops.out, hQ.out, ha.out]
         try simp only [Act.put, y1, y2, y3, y4, y5, y6]
         have hq : w.heap.size + 3 ≤ W.heap.size := Nat.le_trans hp hs
         refine wpAnyH_ready (rs := [5, 16]) (by kernel_rfl) (by simp) ?_
         refine AllReadyH.cons rfl (fun K hK => ?_) (AllReadyH.cons rfl (fun K hK => ?_) (AllReadyH.nil))
         · go_simp
           refine (toControl_any x2_0 x2_1 x2_2 x2_3 x2_4 _).mono ?_
           rintro e V1 ⟨rfl, hb⟩
           replace hrow := hrow.below hb hHi
           replace hHi := Nat.le_trans hHi hb.size
           replace hrow2 := hrow2.below hb hHi2
           replace hHi2 := Nat.le_trans hHi2 hb.size
           replace bg1 := Box.below bg1 hb bl1
           replace bz1 := Fz.below bz1 hb bl1
           replace bl1 := Nat.lt_of_lt_of_le bl1 hb.size
           replace hS := hSb _ _ hq hb hS
           replace hC := hC.trans (hb.mono hs)
           replace hs := Nat.le_trans hs hb.size
           clear hb
           refine hK.out _ _ hS (fun hHeld => ?_)
           clear hK K
           try simp only [Act.put, y1, y2, y3, y4, y5, y6]
           clear hHeld
           have h := L3_01.out V1 Aa ca _ _ _ g1 hrow hHi hrow2 hHi2 bg1 bz1 bl1 bs1 hS hs hC
           rw [hops.out, hQ.out, ha.out] at h
           try simp only [Act.put, y1, y2, y3, y4, y5, y6] at h
           exact h
         · go_simp
           obtain ⟨V1, hN⟩ : ∃ V : World, V = World.alloc W (.cells #[.int .i64 0, .int .i64 0, .int .i64 0, .int .i64 0, .int .i64 0] 50) := ⟨_, rfl⟩
           rw [← hN]
           have hb : Below W.heap.size W V1 := by rw [hN]; exact (Below.refl _ _).alloc (Nat.le_refl _) _
           have bg0 : Box V1 W.heap.size [.int .i64 0, .int .i64 0, .int .i64 0, .int .i64 0, .int .i64 0] := by rw [hN]; exact box_new W #[.int .i64 0, .int .i64 0, .int .i64 0, .int .i64 0, .int .i64 0] 50
           have bz0 : Fz V1 W.heap.size := by rw [hN]; exact fz_at W #[.int .i64 0, .int .i64 0, .int .i64 0, .int .i64 0, .int .i64 0] 50 _ rfl
           have bl0 : W.heap.size < V1.heap.size := by rw [hN]; simp
           have bs0 : W0.heap.size ≤ W.heap.size := hs
           have bn : W.heap.size ≠ g1 := by omega
           clear hN
           replace hrow := hrow.below hb hHi
           replace hHi := Nat.le_trans hHi hb.size
           replace hrow2 := hrow2.below hb hHi2
           replace hHi2 := Nat.le_trans hHi2 hb.size
           replace bg1 := Box.below bg1 hb bl1
           replace bz1 := Fz.below bz1 hb bl1
           replace bl1 := Nat.lt_of_lt_of_le bl1 hb.size
           replace hS := hSb _ _ hq hb hS
           replace hC := hC.trans (hb.mono hs)
           replace hs := Nat.le_trans hs hb.size
           clear hb
           refine hK.out _ _ hS (fun hHeld => ?_)
           clear hK K
           try simp only [Act.put, y1, y2, y3, y4, y5, y6]
           clear hHeld
           have h := L2_11.out V1 Aa ca _ _ _ W.heap.size g1 hrow hHi hrow2 hHi2 bg0 bz0 bl0 bs0 bg1 bz1 bl1 bs1 bn hS hs hC
           rw [hops.out, hQ.out, ha.out] at h
           try simp only [Act.put, y1, y2, y3, y4, y5, y6] at h
           exact h
        have L2_10 : Hid (∀ (W : World) (Aa : Option Addr) (ca lo Ha lo2 : Nat) (g0 : Nat), (RdSS W lo Ha Aa n0 (rrBool l0)) → (Ha ≤ W.heap.size) → (Rd W lo2 w.heap.size 2 A4 n4 (rRound l4)) → (w.heap.size ≤ W.heap.size) → (Box W g0 [.int .i64 0, .int .i64 0, .int .i64 0, .int .i64 0, .int .i64 0]) → (Fz W g0) → (g0 < W.heap.size) → (W0.heap.size ≤ g0) → (Box W (w.heap.size) [.int .i64 x1_0, .int .i64 x1_1] ∧ Box W (w.heap.size + 1) [.int .i64 x2_0, .int .i64 x2_1, .int .i64 x2_2, .int .i64 x2_3, .int .i64 x2_4] ∧ Box W (w.heap.size + 2) [.int .i64 x3_0, .int .i64 x3_1, .int .i64 x3_2, .int .i64 x3_3, .int .i64 x3_4]) → (W0.heap.size ≤ W.heap.size) → (Below W0.heap.size W0 W) → wpAnyH Try.prog .any ops' Q' (fun W : World => Box W (w.heap.size) [.int .i64 x1_0, .int .i64 x1_1] ∧ Box W (w.heap.size + 1) [.int .i64 x2_0, .int .i64 x2_1, .int .i64 x2_2, .int .i64 x2_3, .int .i64 x2_4] ∧ Box W (w.heap.size + 2) [.int .i64 x3_0, .int .i64 x3_1, .int .i64 x3_2, .int .i64 x3_3, .int .i64 x3_4]) 14 #[true, true, true, true, true, false, true, false, true, false, false, false, false, false, false, false, true, false, false, false, false, false] (Act.put (Act.put (Act.put a' (some 34) (.slice Aa n0 ca)) (some 36) (.agg #[.int .i64 x1_0, .int .i64 x1_1])) (some 12) (.pointer (some ⟨g0, 0, none⟩))) W) := by
         refine hide ?_
         intro W Aa ca lo Ha lo2 g0 hrow hHi hrow2 hHi2 bg0 bz0 bl0 bs0 hS hs hC
         rw [hops.out, hQ.out, ha.out]
         try simp only [Act.put, y1, y2, y3, y4, y5, y6]
         have hq : w.heap.size + 3 ≤ W.heap.size := Nat.le_trans hp hs
         refine wpAnyH_ready (rs := [5, 17]) (by kernel_rfl) (by simp) ?_
         refine AllReadyH.cons rfl (fun K hK => ?_) (AllReadyH.cons rfl (fun K hK => ?_) (AllReadyH.nil))
         · go_simp
           refine (toControl_any x2_0 x2_1 x2_2 x2_3 x2_4 _).mono ?_
           rintro e V1 ⟨rfl, hb⟩
           replace hrow := hrow.below hb hHi
           replace hHi := Nat.le_trans hHi hb.size
           replace hrow2 := hrow2.below hb hHi2
           replace hHi2 := Nat.le_trans hHi2 hb.size
           replace bg0 := Box.below bg0 hb bl0
           replace bz0 := Fz.below bz0 hb bl0
           replace bl0 := Nat.lt_of_lt_of_le bl0 hb.size
           replace hS := hSb _ _ hq hb hS
           replace hC := hC.trans (hb.mono hs)
           replace hs := Nat.le_trans hs hb.size
           clear hb
           refine hK.out _ _ hS (fun hHeld => ?_)
           clear hK K
           try simp only [Act.put, y1, y2, y3, y4, y5, y6]
           clear hHeld
           have h := L3_10.out V1 Aa ca _ _ _ g0 hrow hHi hrow2 hHi2 bg0 bz0 bl0 bs0 hS hs hC
           rw [hops.out, hQ.out, ha.out] at h
           try simp only [Act.put, y1, y2, y3, y4, y5, y6] at h
           exact h
         · go_simp
           obtain ⟨V1, hN⟩ : ∃ V : World, V = World.alloc W (.cells #[.int .i64 0, .int .i64 0, .int .i64 0, .int .i64 0, .int .i64 0] 50) := ⟨_, rfl⟩
           rw [← hN]
           have hb : Below W.heap.size W V1 := by rw [hN]; exact (Below.refl _ _).alloc (Nat.le_refl _) _
           have bg1 : Box V1 W.heap.size [.int .i64 0, .int .i64 0, .int .i64 0, .int .i64 0, .int .i64 0] := by rw [hN]; exact box_new W #[.int .i64 0, .int .i64 0, .int .i64 0, .int .i64 0, .int .i64 0] 50
           have bz1 : Fz V1 W.heap.size := by rw [hN]; exact fz_at W #[.int .i64 0, .int .i64 0, .int .i64 0, .int .i64 0, .int .i64 0] 50 _ rfl
           have bl1 : W.heap.size < V1.heap.size := by rw [hN]; simp
           have bs1 : W0.heap.size ≤ W.heap.size := hs
           have bn : g0 ≠ W.heap.size := by omega
           clear hN
           replace hrow := hrow.below hb hHi
           replace hHi := Nat.le_trans hHi hb.size
           replace hrow2 := hrow2.below hb hHi2
           replace hHi2 := Nat.le_trans hHi2 hb.size
           replace bg0 := Box.below bg0 hb bl0
           replace bz0 := Fz.below bz0 hb bl0
           replace bl0 := Nat.lt_of_lt_of_le bl0 hb.size
           replace hS := hSb _ _ hq hb hS
           replace hC := hC.trans (hb.mono hs)
           replace hs := Nat.le_trans hs hb.size
           clear hb
           refine hK.out _ _ hS (fun hHeld => ?_)
           clear hK K
           try simp only [Act.put, y1, y2, y3, y4, y5, y6]
           clear hHeld
           have h := L2_11.out V1 Aa ca _ _ _ g0 W.heap.size hrow hHi hrow2 hHi2 bg0 bz0 bl0 bs0 bg1 bz1 bl1 bs1 bn hS hs hC
           rw [hops.out, hQ.out, ha.out] at h
           try simp only [Act.put, y1, y2, y3, y4, y5, y6] at h
           exact h
        have L2_00 : Hid (∀ (W : World) (Aa : Option Addr) (ca lo Ha lo2 : Nat), (RdSS W lo Ha Aa n0 (rrBool l0)) → (Ha ≤ W.heap.size) → (Rd W lo2 w.heap.size 2 A4 n4 (rRound l4)) → (w.heap.size ≤ W.heap.size) → (Box W (w.heap.size) [.int .i64 x1_0, .int .i64 x1_1] ∧ Box W (w.heap.size + 1) [.int .i64 x2_0, .int .i64 x2_1, .int .i64 x2_2, .int .i64 x2_3, .int .i64 x2_4] ∧ Box W (w.heap.size + 2) [.int .i64 x3_0, .int .i64 x3_1, .int .i64 x3_2, .int .i64 x3_3, .int .i64 x3_4]) → (W0.heap.size ≤ W.heap.size) → (Below W0.heap.size W0 W) → wpAnyH Try.prog .any ops' Q' (fun W : World => Box W (w.heap.size) [.int .i64 x1_0, .int .i64 x1_1] ∧ Box W (w.heap.size + 1) [.int .i64 x2_0, .int .i64 x2_1, .int .i64 x2_2, .int .i64 x2_3, .int .i64 x2_4] ∧ Box W (w.heap.size + 2) [.int .i64 x3_0, .int .i64 x3_1, .int .i64 x3_2, .int .i64 x3_3, .int .i64 x3_4]) 15 #[true, true, true, true, true, false, true, false, true, false, false, false, false, false, false, false, false, false, false, false, false, false] (Act.put (Act.put a' (some 34) (.slice Aa n0 ca)) (some 36) (.agg #[.int .i64 x1_0, .int .i64 x1_1])) W) := by
         refine hide ?_
         intro W Aa ca lo Ha lo2 hrow hHi hrow2 hHi2 hS hs hC
         rw [hops.out, hQ.out, ha.out]
         try simp only [Act.put, y1, y2, y3, y4, y5, y6]
         have hq : w.heap.size + 3 ≤ W.heap.size := Nat.le_trans hp hs
         refine wpAnyH_ready (rs := [5, 16, 17]) (by kernel_rfl) (by simp) ?_
         refine AllReadyH.cons rfl (fun K hK => ?_) (AllReadyH.cons rfl (fun K hK => ?_) (AllReadyH.cons rfl (fun K hK => ?_) (AllReadyH.nil)))
         · go_simp
           refine (toControl_any x2_0 x2_1 x2_2 x2_3 x2_4 _).mono ?_
           rintro e V1 ⟨rfl, hb⟩
           replace hrow := hrow.below hb hHi
           replace hHi := Nat.le_trans hHi hb.size
           replace hrow2 := hrow2.below hb hHi2
           replace hHi2 := Nat.le_trans hHi2 hb.size
           replace hS := hSb _ _ hq hb hS
           replace hC := hC.trans (hb.mono hs)
           replace hs := Nat.le_trans hs hb.size
           clear hb
           refine hK.out _ _ hS (fun hHeld => ?_)
           clear hK K
           try simp only [Act.put, y1, y2, y3, y4, y5, y6]
           clear hHeld
           have h := L3_00.out V1 Aa ca _ _ _ hrow hHi hrow2 hHi2 hS hs hC
           rw [hops.out, hQ.out, ha.out] at h
           try simp only [Act.put, y1, y2, y3, y4, y5, y6] at h
           exact h
         · go_simp
           obtain ⟨V1, hN⟩ : ∃ V : World, V = World.alloc W (.cells #[.int .i64 0, .int .i64 0, .int .i64 0, .int .i64 0, .int .i64 0] 50) := ⟨_, rfl⟩
           rw [← hN]
           have hb : Below W.heap.size W V1 := by rw [hN]; exact (Below.refl _ _).alloc (Nat.le_refl _) _
           have bg0 : Box V1 W.heap.size [.int .i64 0, .int .i64 0, .int .i64 0, .int .i64 0, .int .i64 0] := by rw [hN]; exact box_new W #[.int .i64 0, .int .i64 0, .int .i64 0, .int .i64 0, .int .i64 0] 50
           have bz0 : Fz V1 W.heap.size := by rw [hN]; exact fz_at W #[.int .i64 0, .int .i64 0, .int .i64 0, .int .i64 0, .int .i64 0] 50 _ rfl
           have bl0 : W.heap.size < V1.heap.size := by rw [hN]; simp
           have bs0 : W0.heap.size ≤ W.heap.size := hs
           clear hN
           replace hrow := hrow.below hb hHi
           replace hHi := Nat.le_trans hHi hb.size
           replace hrow2 := hrow2.below hb hHi2
           replace hHi2 := Nat.le_trans hHi2 hb.size
           replace hS := hSb _ _ hq hb hS
           replace hC := hC.trans (hb.mono hs)
           replace hs := Nat.le_trans hs hb.size
           clear hb
           refine hK.out _ _ hS (fun hHeld => ?_)
           clear hK K
           try simp only [Act.put, y1, y2, y3, y4, y5, y6]
           clear hHeld
           have h := L2_10.out V1 Aa ca _ _ _ W.heap.size hrow hHi hrow2 hHi2 bg0 bz0 bl0 bs0 hS hs hC
           rw [hops.out, hQ.out, ha.out] at h
           try simp only [Act.put, y1, y2, y3, y4, y5, y6] at h
           exact h
         · go_simp
           obtain ⟨V1, hN⟩ : ∃ V : World, V = World.alloc W (.cells #[.int .i64 0, .int .i64 0, .int .i64 0, .int .i64 0, .int .i64 0] 50) := ⟨_, rfl⟩
           rw [← hN]
           have hb : Below W.heap.size W V1 := by rw [hN]; exact (Below.refl _ _).alloc (Nat.le_refl _) _
           have bg1 : Box V1 W.heap.size [.int .i64 0, .int .i64 0, .int .i64 0, .int .i64 0, .int .i64 0] := by rw [hN]; exact box_new W #[.int .i64 0, .int .i64 0, .int .i64 0, .int .i64 0, .int .i64 0] 50
           have bz1 : Fz V1 W.heap.size := by rw [hN]; exact fz_at W #[.int .i64 0, .int .i64 0, .int .i64 0, .int .i64 0, .int .i64 0] 50 _ rfl
           have bl1 : W.heap.size < V1.heap.size := by rw [hN]; simp
           have bs1 : W0.heap.size ≤ W.heap.size := hs
           clear hN
           replace hrow := hrow.below hb hHi
           replace hHi := Nat.le_trans hHi hb.size
           replace hrow2 := hrow2.below hb hHi2
           replace hHi2 := Nat.le_trans hHi2 hb.size
           replace hS := hSb _ _ hq hb hS
           replace hC := hC.trans (hb.mono hs)
           replace hs := Nat.le_trans hs hb.size
           clear hb
           refine hK.out _ _ hS (fun hHeld => ?_)
           clear hK K
           try simp only [Act.put, y1, y2, y3, y4, y5, y6]
           clear hHeld
           have h := L2_01.out V1 Aa ca _ _ _ W.heap.size hrow hHi hrow2 hHi2 bg1 bz1 bl1 bs1 hS hs hC
           rw [hops.out, hQ.out, ha.out] at h
           try simp only [Act.put, y1, y2, y3, y4, y5, y6] at h
           exact h
        have L1_11 : Hid (∀ (W : World) (Aa : Option Addr) (ca lo Ha lo2 : Nat) (g0 : Nat) (g1 : Nat), (RdSS W lo Ha Aa n0 (rrBool l0)) → (Ha ≤ W.heap.size) → (Rd W lo2 w.heap.size 2 A4 n4 (rRound l4)) → (w.heap.size ≤ W.heap.size) → (Box W g0 [.int .i64 0, .int .i64 0, .int .i64 0, .int .i64 0, .int .i64 0]) → (Fz W g0) → (g0 < W.heap.size) → (W0.heap.size ≤ g0) → (Box W g1 [.int .i64 0, .int .i64 0, .int .i64 0, .int .i64 0, .int .i64 0]) → (Fz W g1) → (g1 < W.heap.size) → (W0.heap.size ≤ g1) → (g0 ≠ g1) → (Box W (w.heap.size) [.int .i64 x1_0, .int .i64 x1_1] ∧ Box W (w.heap.size + 1) [.int .i64 x2_0, .int .i64 x2_1, .int .i64 x2_2, .int .i64 x2_3, .int .i64 x2_4] ∧ Box W (w.heap.size + 2) [.int .i64 x3_0, .int .i64 x3_1, .int .i64 x3_2, .int .i64 x3_3, .int .i64 x3_4]) → (W0.heap.size ≤ W.heap.size) → (Below W0.heap.size W0 W) → wpAnyH Try.prog .any ops' Q' (fun W : World => Box W (w.heap.size) [.int .i64 x1_0, .int .i64 x1_1] ∧ Box W (w.heap.size + 1) [.int .i64 x2_0, .int .i64 x2_1, .int .i64 x2_2, .int .i64 x2_3, .int .i64 x2_4] ∧ Box W (w.heap.size + 2) [.int .i64 x3_0, .int .i64 x3_1, .int .i64 x3_2, .int .i64 x3_3, .int .i64 x3_4]) 14 #[true, true, true, false, true, false, true, false, true, false, false, false, false, false, false, false, true, true, false, false, false, false] (Act.put (Act.put (Act.put a' (some 34) (.slice Aa n0 ca)) (some 12) (.pointer (some ⟨g0, 0, none⟩))) (some 13) (.pointer (some ⟨g1, 0, none⟩))) W) := by
         refine hide ?_
         intro W Aa ca lo Ha lo2 g0 g1 hrow hHi hrow2 hHi2 bg0 bz0 bl0 bs0 bg1 bz1 bl1 bs1 bn hS hs hC
         rw [hops.out, hQ.out, ha.out]
         try simp only [Act.put, y1, y2, y3, y4, y5, y6]
         have hq : w.heap.size + 3 ≤ W.heap.size := Nat.le_trans hp hs
         refine wpAnyH_ready (rs := [3]) (by kernel_rfl) (by simp) ?_
         refine AllReadyH.cons rfl (fun K hK => ?_) (AllReadyH.nil)
         · go_simp
           refine (toRules_any x1_0 x1_1 _).mono ?_
           rintro e V1 ⟨rfl, hb⟩
           replace hrow := hrow.below hb hHi
           replace hHi := Nat.le_trans hHi hb.size
           replace hrow2 := hrow2.below hb hHi2
           replace hHi2 := Nat.le_trans hHi2 hb.size
           replace bg0 := Box.below bg0 hb bl0
           replace bz0 := Fz.below bz0 hb bl0
           replace bl0 := Nat.lt_of_lt_of_le bl0 hb.size
           replace bg1 := Box.below bg1 hb bl1
           replace bz1 := Fz.below bz1 hb bl1
           replace bl1 := Nat.lt_of_lt_of_le bl1 hb.size
           replace hS := hSb _ _ hq hb hS
           replace hC := hC.trans (hb.mono hs)
           replace hs := Nat.le_trans hs hb.size
           clear hb
           refine hK.out _ _ hS (fun hHeld => ?_)
           clear hK K
           try simp only [Act.put, y1, y2, y3, y4, y5, y6]
           clear hHeld
           have h := L2_11.out V1 Aa ca _ _ _ g0 g1 hrow hHi hrow2 hHi2 bg0 bz0 bl0 bs0 bg1 bz1 bl1 bs1 bn hS hs hC
           rw [hops.out, hQ.out, ha.out] at h
           try simp only [Act.put, y1, y2, y3, y4, y5, y6] at h
           exact h
        have L1_01 : Hid (∀ (W : World) (Aa : Option Addr) (ca lo Ha lo2 : Nat) (g1 : Nat), (RdSS W lo Ha Aa n0 (rrBool l0)) → (Ha ≤ W.heap.size) → (Rd W lo2 w.heap.size 2 A4 n4 (rRound l4)) → (w.heap.size ≤ W.heap.size) → (Box W g1 [.int .i64 0, .int .i64 0, .int .i64 0, .int .i64 0, .int .i64 0]) → (Fz W g1) → (g1 < W.heap.size) → (W0.heap.size ≤ g1) → (Box W (w.heap.size) [.int .i64 x1_0, .int .i64 x1_1] ∧ Box W (w.heap.size + 1) [.int .i64 x2_0, .int .i64 x2_1, .int .i64 x2_2, .int .i64 x2_3, .int .i64 x2_4] ∧ Box W (w.heap.size + 2) [.int .i64 x3_0, .int .i64 x3_1, .int .i64 x3_2, .int .i64 x3_3, .int .i64 x3_4]) → (W0.heap.size ≤ W.heap.size) → (Below W0.heap.size W0 W) → wpAnyH Try.prog .any ops' Q' (fun W : World => Box W (w.heap.size) [.int .i64 x1_0, .int .i64 x1_1] ∧ Box W (w.heap.size + 1) [.int .i64 x2_0, .int .i64 x2_1, .int .i64 x2_2, .int .i64 x2_3, .int .i64 x2_4] ∧ Box W (w.heap.size + 2) [.int .i64 x3_0, .int .i64 x3_1, .int .i64 x3_2, .int .i64 x3_3, .int .i64 x3_4]) 15 #[true, true, true, false, true, false, true, false, true, false, false, false, false, false, false, false, false, true, false, false, false, false] (Act.put (Act.put a' (some 34) (.slice Aa n0 ca)) (some 13) (.pointer (some ⟨g1, 0, none⟩))) W) := by
         refine hide ?_
         intro W Aa ca lo Ha lo2 g1 hrow hHi hrow2 hHi2 bg1 bz1 bl1 bs1 hS hs hC
         rw [hops.out, hQ.out, ha.out]
         try simp only [Act.put, y1, y2, y3, y4, y5, y6]
         have hq : w.heap.size + 3 ≤ W.heap.size := Nat.le_trans hp hs
         refine wpAnyH_ready (rs := [3, 16]) (by kernel_rfl) (by simp) ?_
         refine AllReadyH.cons rfl (fun K hK => ?_) (AllReadyH.cons rfl (fun K hK => ?_) (AllReadyH.nil))
         · go_simp
           refine (toRules_any x1_0 x1_1 _).mono ?_
           rintro e V1 ⟨rfl, hb⟩
           replace hrow := hrow.below hb hHi
           replace hHi := Nat.le_trans hHi hb.size
           replace hrow2 := hrow2.below hb hHi2
           replace hHi2 := Nat.le_trans hHi2 hb.size
           replace bg1 := Box.below bg1 hb bl1
           replace bz1 := Fz.below bz1 hb bl1
           replace bl1 := Nat.lt_of_lt_of_le bl1 hb.size
           replace hS := hSb _ _ hq hb hS
           replace hC := hC.trans (hb.mono hs)
           replace hs := Nat.le_trans hs hb.size
           clear hb
           refine hK.out _ _ hS (fun hHeld => ?_)
           clear hK K
           try simp only [Act.put, y1, y2, y3, y4, y5, y6]
           clear hHeld
           have h := L2_01.out V1 Aa ca _ _ _ g1 hrow hHi hrow2 hHi2 bg1 bz1 bl1 bs1 hS hs hC
           rw [hops.out, hQ.out, ha.out] at h
           try simp only [Act.put, y1, y2, y3, y4, y5, y6] at h
           exact h
         · go_simp
           obtain ⟨V1, hN⟩ : ∃ V : World, V = World.alloc W (.cells #[.int .i64 0, .int .i64 0, .int .i64 0, .int .i64 0, .int .i64 0] 50) := ⟨_, rfl⟩
           rw [← hN]
           have hb : Below W.heap.size W V1 := by rw [hN]; exact (Below.refl _ _).alloc (Nat.le_refl _) _
           have bg0 : Box V1 W.heap.size [.int .i64 0, .int .i64 0, .int .i64 0, .int .i64 0, .int .i64 0] := by rw [hN]; exact box_new W #[.int .i64 0, .int .i64 0, .int .i64 0, .int .i64 0, .int .i64 0] 50
           have bz0 : Fz V1 W.heap.size := by rw [hN]; exact fz_at W #[.int .i64 0, .int .i64 0, .int .i64 0, .int .i64 0, .int .i64 0] 50 _ rfl
           have bl0 : W.heap.size < V1.heap.size := by rw [hN]; simp
           have bs0 : W0.heap.size ≤ W.heap.size := hs
           have bn : W.heap.size ≠ g1 := by omega
           clear hN
           replace hrow := hrow.below hb hHi
           replace hHi := Nat.le_trans hHi hb.size
           replace hrow2 := hrow2.below hb hHi2
           replace hHi2 := Nat.le_trans hHi2 hb.size
           replace bg1 := Box.below bg1 hb bl1
           replace bz1 := Fz.below bz1 hb bl1
           replace bl1 := Nat.lt_of_lt_of_le bl1 hb.size
           replace hS := hSb _ _ hq hb hS
           replace hC := hC.trans (hb.mono hs)
           replace hs := Nat.le_trans hs hb.size
           clear hb
           refine hK.out _ _ hS (fun hHeld => ?_)
           clear hK K
           try simp only [Act.put, y1, y2, y3, y4, y5, y6]
           clear hHeld
           have h := L1_11.out V1 Aa ca _ _ _ W.heap.size g1 hrow hHi hrow2 hHi2 bg0 bz0 bl0 bs0 bg1 bz1 bl1 bs1 bn hS hs hC
           rw [hops.out, hQ.out, ha.out] at h
           try simp only [Act.put, y1, y2, y3, y4, y5, y6] at h
           exact h
        have L1_10 : Hid (∀ (W : World) (Aa : Option Addr) (ca lo Ha lo2 : Nat) (g0 : Nat), (RdSS W lo Ha Aa n0 (rrBool l0)) → (Ha ≤ W.heap.size) → (Rd W lo2 w.heap.size 2 A4 n4 (rRound l4)) → (w.heap.size ≤ W.heap.size) → (Box W g0 [.int .i64 0, .int .i64 0, .int .i64 0, .int .i64 0, .int .i64 0]) → (Fz W g0) → (g0 < W.heap.size) → (W0.heap.size ≤ g0) → (Box W (w.heap.size) [.int .i64 x1_0, .int .i64 x1_1] ∧ Box W (w.heap.size + 1) [.int .i64 x2_0, .int .i64 x2_1, .int .i64 x2_2, .int .i64 x2_3, .int .i64 x2_4] ∧ Box W (w.heap.size + 2) [.int .i64 x3_0, .int .i64 x3_1, .int .i64 x3_2, .int .i64 x3_3, .int .i64 x3_4]) → (W0.heap.size ≤ W.heap.size) → (Below W0.heap.size W0 W) → wpAnyH Try.prog .any ops' Q' (fun W : World => Box W (w.heap.size) [.int .i64 x1_0, .int .i64 x1_1] ∧ Box W (w.heap.size + 1) [.int .i64 x2_0, .int .i64 x2_1, .int .i64 x2_2, .int .i64 x2_3, .int .i64 x2_4] ∧ Box W (w.heap.size + 2) [.int .i64 x3_0, .int .i64 x3_1, .int .i64 x3_2, .int .i64 x3_3, .int .i64 x3_4]) 15 #[true, true, true, false, true, false, true, false, true, false, false, false, false, false, false, false, true, false, false, false, false, false] (Act.put (Act.put a' (some 34) (.slice Aa n0 ca)) (some 12) (.pointer (some ⟨g0, 0, none⟩))) W) := by
         refine hide ?_
         intro W Aa ca lo Ha lo2 g0 hrow hHi hrow2 hHi2 bg0 bz0 bl0 bs0 hS hs hC
         rw [hops.out, hQ.out, ha.out]
         try simp only [Act.put, y1, y2, y3, y4, y5, y6]
         have hq : w.heap.size + 3 ≤ W.heap.size := Nat.le_trans hp hs
         refine wpAnyH_ready (rs := [3, 17]) (by kernel_rfl) (by simp) ?_
         refine AllReadyH.cons rfl (fun K hK => ?_) (AllReadyH.cons rfl (fun K hK => ?_) (AllReadyH.nil))
         · go_simp
           refine (toRules_any x1_0 x1_1 _).mono ?_
           rintro e V1 ⟨rfl, hb⟩
           replace hrow := hrow.below hb hHi
           replace hHi := Nat.le_trans hHi hb.size
           replace hrow2 := hrow2.below hb hHi2
           replace hHi2 := Nat.le_trans hHi2 hb.size
           replace bg0 := Box.below bg0 hb bl0
           replace bz0 := Fz.below bz0 hb bl0
           replace bl0 := Nat.lt_of_lt_of_le bl0 hb.size
           replace hS := hSb _ _ hq hb hS
           replace hC := hC.trans (hb.mono hs)
           replace hs := Nat.le_trans hs hb.size
           clear hb
           refine hK.out _ _ hS (fun hHeld => ?_)
           clear hK K
           try simp only [Act.put, y1, y2, y3, y4, y5, y6]
           clear hHeld
           have h := L2_10.out V1 Aa ca _ _ _ g0 hrow hHi hrow2 hHi2 bg0 bz0 bl0 bs0 hS hs hC
           rw [hops.out, hQ.out, ha.out] at h
           try simp only [Act.put, y1, y2, y3, y4, y5, y6] at h
           exact h
         · go_simp
           obtain ⟨V1, hN⟩ : ∃ V : World, V = World.alloc W (.cells #[.int .i64 0, .int .i64 0, .int .i64 0, .int .i64 0, .int .i64 0] 50) := ⟨_, rfl⟩
           rw [← hN]
           have hb : Below W.heap.size W V1 := by rw [hN]; exact (Below.refl _ _).alloc (Nat.le_refl _) _
           have bg1 : Box V1 W.heap.size [.int .i64 0, .int .i64 0, .int .i64 0, .int .i64 0, .int .i64 0] := by rw [hN]; exact box_new W #[.int .i64 0, .int .i64 0, .int .i64 0, .int .i64 0, .int .i64 0] 50
           have bz1 : Fz V1 W.heap.size := by rw [hN]; exact fz_at W #[.int .i64 0, .int .i64 0, .int .i64 0, .int .i64 0, .int .i64 0] 50 _ rfl
           have bl1 : W.heap.size < V1.heap.size := by rw [hN]; simp
           have bs1 : W0.heap.size ≤ W.heap.size := hs
           have bn : g0 ≠ W.heap.size := by omega
           clear hN
           replace hrow := hrow.below hb hHi
           replace hHi := Nat.le_trans hHi hb.size
           replace hrow2 := hrow2.below hb hHi2
           replace hHi2 := Nat.le_trans hHi2 hb.size
           replace bg0 := Box.below bg0 hb bl0
           replace bz0 := Fz.below bz0 hb bl0
           replace bl0 := Nat.lt_of_lt_of_le bl0 hb.size
           replace hS := hSb _ _ hq hb hS
           replace hC := hC.trans (hb.mono hs)
           replace hs := Nat.le_trans hs hb.size
           clear hb
           refine hK.out _ _ hS (fun hHeld => ?_)
           clear hK K
           try simp only [Act.put, y1, y2, y3, y4, y5, y6]
           clear hHeld
           have h := L1_11.out V1 Aa ca _ _ _ g0 W.heap.size hrow hHi hrow2 hHi2 bg0 bz0 bl0 bs0 bg1 bz1 bl1 bs1 bn hS hs hC
           rw [hops.out, hQ.out, ha.out] at h
           try simp only [Act.put, y1, y2, y3, y4, y5, y6] at h
           exact h
        have L1_00 : Hid (∀ (W : World) (Aa : Option Addr) (ca lo Ha lo2 : Nat), (RdSS W lo Ha Aa n0 (rrBool l0)) → (Ha ≤ W.heap.size) → (Rd W lo2 w.heap.size 2 A4 n4 (rRound l4)) → (w.heap.size ≤ W.heap.size) → (Box W (w.heap.size) [.int .i64 x1_0, .int .i64 x1_1] ∧ Box W (w.heap.size + 1) [.int .i64 x2_0, .int .i64 x2_1, .int .i64 x2_2, .int .i64 x2_3, .int .i64 x2_4] ∧ Box W (w.heap.size + 2) [.int .i64 x3_0, .int .i64 x3_1, .int .i64 x3_2, .int .i64 x3_3, .int .i64 x3_4]) → (W0.heap.size ≤ W.heap.size) → (Below W0.heap.size W0 W) → wpAnyH Try.prog .any ops' Q' (fun W : World => Box W (w.heap.size) [.int .i64 x1_0, .int .i64 x1_1] ∧ Box W (w.heap.size + 1) [.int .i64 x2_0, .int .i64 x2_1, .int .i64 x2_2, .int .i64 x2_3, .int .i64 x2_4] ∧ Box W (w.heap.size + 2) [.int .i64 x3_0, .int .i64 x3_1, .int .i64 x3_2, .int .i64 x3_3, .int .i64 x3_4]) 16 #[true, true, true, false, true, false, true, false, true, false, false, false, false, false, false, false, false, false, false, false, false, false] (Act.put a' (some 34) (.slice Aa n0 ca)) W) := by
         refine hide ?_
         intro W Aa ca lo Ha lo2 hrow hHi hrow2 hHi2 hS hs hC
         rw [hops.out, hQ.out, ha.out]
         try simp only [Act.put, y1, y2, y3, y4, y5, y6]
         have hq : w.heap.size + 3 ≤ W.heap.size := Nat.le_trans hp hs
         refine wpAnyH_ready (rs := [3, 16, 17]) (by kernel_rfl) (by simp) ?_
         refine AllReadyH.cons rfl (fun K hK => ?_) (AllReadyH.cons rfl (fun K hK => ?_) (AllReadyH.cons rfl (fun K hK => ?_) (AllReadyH.nil)))
         · go_simp
           refine (toRules_any x1_0 x1_1 _).mono ?_
           rintro e V1 ⟨rfl, hb⟩
           replace hrow := hrow.below hb hHi
           replace hHi := Nat.le_trans hHi hb.size
           replace hrow2 := hrow2.below hb hHi2
           replace hHi2 := Nat.le_trans hHi2 hb.size
           replace hS := hSb _ _ hq hb hS
           replace hC := hC.trans (hb.mono hs)
           replace hs := Nat.le_trans hs hb.size
           clear hb
           refine hK.out _ _ hS (fun hHeld => ?_)
           clear hK K
           try simp only [Act.put, y1, y2, y3, y4, y5, y6]
           clear hHeld
           have h := L2_00.out V1 Aa ca _ _ _ hrow hHi hrow2 hHi2 hS hs hC
           rw [hops.out, hQ.out, ha.out] at h
           try simp only [Act.put, y1, y2, y3, y4, y5, y6] at h
           exact h
         · go_simp
           obtain ⟨V1, hN⟩ : ∃ V : World, V = World.alloc W (.cells #[.int .i64 0, .int .i64 0, .int .i64 0, .int .i64 0, .int .i64 0] 50) := ⟨_, rfl⟩
           rw [← hN]
           have hb : Below W.heap.size W V1 := by rw [hN]; exact (Below.refl _ _).alloc (Nat.le_refl _) _
           have bg0 : Box V1 W.heap.size [.int .i64 0, .int .i64 0, .int .i64 0, .int .i64 0, .int .i64 0] := by rw [hN]; exact box_new W #[.int .i64 0, .int .i64 0, .int .i64 0, .int .i64 0, .int .i64 0] 50
           have bz0 : Fz V1 W.heap.size := by rw [hN]; exact fz_at W #[.int .i64 0, .int .i64 0, .int .i64 0, .int .i64 0, .int .i64 0] 50 _ rfl
           have bl0 : W.heap.size < V1.heap.size := by rw [hN]; simp
           have bs0 : W0.heap.size ≤ W.heap.size := hs
           clear hN
           replace hrow := hrow.below hb hHi
           replace hHi := Nat.le_trans hHi hb.size
           replace hrow2 := hrow2.below hb hHi2
           replace hHi2 := Nat.le_trans hHi2 hb.size
           replace hS := hSb _ _ hq hb hS
           replace hC := hC.trans (hb.mono hs)
           replace hs := Nat.le_trans hs hb.size
           clear hb
           refine hK.out _ _ hS (fun hHeld => ?_)
           clear hK K
           try simp only [Act.put, y1, y2, y3, y4, y5, y6]
           clear hHeld
           have h := L1_10.out V1 Aa ca _ _ _ W.heap.size hrow hHi hrow2 hHi2 bg0 bz0 bl0 bs0 hS hs hC
           rw [hops.out, hQ.out, ha.out] at h
           try simp only [Act.put, y1, y2, y3, y4, y5, y6] at h
           exact h
         · go_simp
           obtain ⟨V1, hN⟩ : ∃ V : World, V = World.alloc W (.cells #[.int .i64 0, .int .i64 0, .int .i64 0, .int .i64 0, .int .i64 0] 50) := ⟨_, rfl⟩
           rw [← hN]
           have hb : Below W.heap.size W V1 := by rw [hN]; exact (Below.refl _ _).alloc (Nat.le_refl _) _
           have bg1 : Box V1 W.heap.size [.int .i64 0, .int .i64 0, .int .i64 0, .int .i64 0, .int .i64 0] := by rw [hN]; exact box_new W #[.int .i64 0, .int .i64 0, .int .i64 0, .int .i64 0, .int .i64 0] 50
           have bz1 : Fz V1 W.heap.size := by rw [hN]; exact fz_at W #[.int .i64 0, .int .i64 0, .int .i64 0, .int .i64 0, .int .i64 0] 50 _ rfl
           have bl1 : W.heap.size < V1.heap.size := by rw [hN]; simp
           have bs1 : W0.heap.size ≤ W.heap.size := hs
           clear hN
           replace hrow := hrow.below hb hHi
           replace hHi := Nat.le_trans hHi hb.size
           replace hrow2 := hrow2.below hb hHi2
           replace hHi2 := Nat.le_trans hHi2 hb.size
           replace hS := hSb _ _ hq hb hS
           replace hC := hC.trans (hb.mono hs)
           replace hs := Nat.le_trans hs hb.size
           clear hb
           refine hK.out _ _ hS (fun hHeld => ?_)
           clear hK K
           try simp only [Act.put, y1, y2, y3, y4, y5, y6]
           clear hHeld
           have h := L1_01.out V1 Aa ca _ _ _ W.heap.size hrow hHi hrow2 hHi2 bg1 bz1 bl1 bs1 hS hs hC
           rw [hops.out, hQ.out, ha.out] at h
           try simp only [Act.put, y1, y2, y3, y4, y5, y6] at h
           exact h
        have L0_11 : Hid (∀ (W : World) (lo lo2 : Nat) (g0 : Nat) (g1 : Nat), (RdSS W lo w.heap.size A0 n0 (rrBool l0)) → (w.heap.size ≤ W.heap.size) → (Rd W lo2 w.heap.size 2 A4 n4 (rRound l4)) → (w.heap.size ≤ W.heap.size) → (Box W g0 [.int .i64 0, .int .i64 0, .int .i64 0, .int .i64 0, .int .i64 0]) → (Fz W g0) → (g0 < W.heap.size) → (W0.heap.size ≤ g0) → (Box W g1 [.int .i64 0, .int .i64 0, .int .i64 0, .int .i64 0, .int .i64 0]) → (Fz W g1) → (g1 < W.heap.size) → (W0.heap.size ≤ g1) → (g0 ≠ g1) → (Box W (w.heap.size) [.int .i64 x1_0, .int .i64 x1_1] ∧ Box W (w.heap.size + 1) [.int .i64 x2_0, .int .i64 x2_1, .int .i64 x2_2, .int .i64 x2_3, .int .i64 x2_4] ∧ Box W (w.heap.size + 2) [.int .i64 x3_0, .int .i64 x3_1, .int .i64 x3_2, .int .i64 x3_3, .int .i64 x3_4]) → (W0.heap.size ≤ W.heap.size) → (Below W0.heap.size W0 W) → wpAnyH Try.prog .any ops' Q' (fun W : World => Box W (w.heap.size) [.int .i64 x1_0, .int .i64 x1_1] ∧ Box W (w.heap.size + 1) [.int .i64 x2_0, .int .i64 x2_1, .int .i64 x2_2, .int .i64 x2_3, .int .i64 x2_4] ∧ Box W (w.heap.size + 2) [.int .i64 x3_0, .int .i64 x3_1, .int .i64 x3_2, .int .i64 x3_3, .int .i64 x3_4]) 15 #[true, false, true, false, true, false, true, false, true, false, false, false, false, false, false, false, true, true, false, false, false, false] (Act.put (Act.put a' (some 12) (.pointer (some ⟨g0, 0, none⟩))) (some 13) (.pointer (some ⟨g1, 0, none⟩))) W) := by
         refine hide ?_
         intro W lo lo2 g0 g1 hrow hHi hrow2 hHi2 bg0 bz0 bl0 bs0 bg1 bz1 bl1 bs1 bn hS hs hC
         rw [hops.out, hQ.out, ha.out]
         try simp only [Act.put, y1, y2, y3, y4, y5, y6]
         have hq : w.heap.size + 3 ≤ W.heap.size := Nat.le_trans hp hs
         refine wpAnyH_ready (rs := [1]) (by kernel_rfl) (by simp) ?_
         refine AllReadyH.cons rfl (fun K hK => ?_) (AllReadyH.nil)
         · go_simp
           refine (toBoolSS_any A0 n0 c0 _ w.heap.size l0 hn HROW.out _ hrow hHi).mono ?_
           rintro e V1 ⟨va, rfl, hoa, hb⟩
           replace hrow := hrow.below hb hHi
           replace hHi := Nat.le_trans hHi hb.size
           replace hrow2 := hrow2.below hb hHi2
           replace hHi2 := Nat.le_trans hHi2 hb.size
           replace bg0 := Box.below bg0 hb bl0
           replace bz0 := Fz.below bz0 hb bl0
           replace bl0 := Nat.lt_of_lt_of_le bl0 hb.size
           replace bg1 := Box.below bg1 hb bl1
           replace bz1 := Fz.below bz1 hb bl1
           replace bl1 := Nat.lt_of_lt_of_le bl1 hb.size
           replace hS := hSb _ _ hq hb hS
           replace hC := hC.trans (hb.mono hs)
           replace hs := Nat.le_trans hs hb.size
           obtain ⟨Aa, ca, rfl, _, _, hra⟩ := hoa.rd; clear hoa hrow hHi; have hrow := hra; have hHi := Nat.le_refl V1.heap.size
           clear hb
           refine hK.out _ _ hS (fun hHeld => ?_)
           clear hK K
           try simp only [Act.put, y1, y2, y3, y4, y5, y6]
           clear hHeld
           have h := L1_11.out V1 Aa ca _ _ _ g0 g1 hrow hHi hrow2 hHi2 bg0 bz0 bl0 bs0 bg1 bz1 bl1 bs1 bn hS hs hC
           rw [hops.out, hQ.out, ha.out] at h
           try simp only [Act.put, y1, y2, y3, y4, y5, y6] at h
           exact h
        have L0_01 : Hid (∀ (W : World) (lo lo2 : Nat) (g1 : Nat), (RdSS W lo w.heap.size A0 n0 (rrBool l0)) → (w.heap.size ≤ W.heap.size) → (Rd W lo2 w.heap.size 2 A4 n4 (rRound l4)) → (w.heap.size ≤ W.heap.size) → (Box W g1 [.int .i64 0, .int .i64 0, .int .i64 0, .int .i64 0, .int .i64 0]) → (Fz W g1) → (g1 < W.heap.size) → (W0.heap.size ≤ g1) → (Box W (w.heap.size) [.int .i64 x1_0, .int .i64 x1_1] ∧ Box W (w.heap.size + 1) [.int .i64 x2_0, .int .i64 x2_1, .int .i64 x2_2, .int .i64 x2_3, .int .i64 x2_4] ∧ Box W (w.heap.size + 2) [.int .i64 x3_0, .int .i64 x3_1, .int .i64 x3_2, .int .i64 x3_3, .int .i64 x3_4]) → (W0.heap.size ≤ W.heap.size) → (Below W0.heap.size W0 W) → wpAnyH Try.prog .any ops' Q' (fun W : World => Box W (w.heap.size) [.int .i64 x1_0, .int .i64 x1_1] ∧ Box W (w.heap.size + 1) [.int .i64 x2_0, .int .i64 x2_1, .int .i64 x2_2, .int .i64 x2_3, .int .i64 x2_4] ∧ Box W (w.heap.size + 2) [.int .i64 x3_0, .int .i64 x3_1, .int .i64 x3_2, .int .i64 x3_3, .int .i64 x3_4]) 16 #[true, false, true, false, true, false, true, false, true, false, false, false, false, false, false, false, false, true, false, false, false, false] (Act.put a' (some 13) (.pointer (some ⟨g1, 0, none⟩))) W) := by
         refine hide ?_
         intro W lo lo2 g1 hrow hHi hrow2 hHi2 bg1 bz1 bl1 bs1 hS hs hC
         rw [hops.out, hQ.out, ha.out]
         try simp only [Act.put, y1, y2, y3, y4, y5, y6]
         have hq : w.heap.size + 3 ≤ W.heap.size := Nat.le_trans hp hs
         refine wpAnyH_ready (rs := [1, 16]) (by kernel_rfl) (by simp) ?_
         refine AllReadyH.cons rfl (fun K hK => ?_) (AllReadyH.cons rfl (fun K hK => ?_) (AllReadyH.nil))
         · go_simp
           refine (toBoolSS_any A0 n0 c0 _ w.heap.size l0 hn HROW.out _ hrow hHi).mono ?_
           rintro e V1 ⟨va, rfl, hoa, hb⟩
           replace hrow := hrow.below hb hHi
           replace hHi := Nat.le_trans hHi hb.size
           replace hrow2 := hrow2.below hb hHi2
           replace hHi2 := Nat.le_trans hHi2 hb.size
           replace bg1 := Box.below bg1 hb bl1
           replace bz1 := Fz.below bz1 hb bl1
           replace bl1 := Nat.lt_of_lt_of_le bl1 hb.size
           replace hS := hSb _ _ hq hb hS
           replace hC := hC.trans (hb.mono hs)
           replace hs := Nat.le_trans hs hb.size
           obtain ⟨Aa, ca, rfl, _, _, hra⟩ := hoa.rd; clear hoa hrow hHi; have hrow := hra; have hHi := Nat.le_refl V1.heap.size
           clear hb
           refine hK.out _ _ hS (fun hHeld => ?_)
           clear hK K
           try simp only [Act.put, y1, y2, y3, y4, y5, y6]
           clear hHeld
           have h := L1_01.out V1 Aa ca _ _ _ g1 hrow hHi hrow2 hHi2 bg1 bz1 bl1 bs1 hS hs hC
           rw [hops.out, hQ.out, ha.out] at h
           try simp only [Act.put, y1, y2, y3, y4, y5, y6] at h
           exact h
         · go_simp
           obtain ⟨V1, hN⟩ : ∃ V : World, V = World.alloc W (.cells #[.int .i64 0, .int .i64 0, .int .i64 0, .int .i64 0, .int .i64 0] 50) := ⟨_, rfl⟩
           rw [← hN]
           have hb : Below W.heap.size W V1 := by rw [hN]; exact (Below.refl _ _).alloc (Nat.le_refl _) _
           have bg0 : Box V1 W.heap.size [.int .i64 0, .int .i64 0, .int .i64 0, .int .i64 0, .int .i64 0] := by rw [hN]; exact box_new W #[.int .i64 0, .int .i64 0, .int .i64 0, .int .i64 0, .int .i64 0] 50
           have bz0 : Fz V1 W.heap.size := by rw [hN]; exact fz_at W #[.int .i64 0, .int .i64 0, .int .i64 0, .int .i64 0, .int .i64 0] 50 _ rfl
           have bl0 : W.heap.size < V1.heap.size := by rw [hN]; simp
           have bs0 : W0.heap.size ≤ W.heap.size := hs
           have bn : W.heap.size ≠ g1 := by omega
           clear hN
           replace hrow := hrow.below hb hHi
           replace hHi := Nat.le_trans hHi hb.size
           replace hrow2 := hrow2.below hb hHi2
           replace hHi2 := Nat.le_trans hHi2 hb.size
           replace bg1 := Box.below bg1 hb bl1
           replace bz1 := Fz.below bz1 hb bl1
           replace bl1 := Nat.lt_of_lt_of_le bl1 hb.size
           replace hS := hSb _ _ hq hb hS
           replace hC := hC.trans (hb.mono hs)
           replace hs := Nat.le_trans hs hb.size
           clear hb
           refine hK.out _ _ hS (fun hHeld => ?_)
           clear hK K
           try simp only [Act.put, y1, y2, y3, y4, y5, y6]
           clear hHeld
           have h := L0_11.out V1 _ _ W.heap.size g1 hrow hHi hrow2 hHi2 bg0 bz0 bl0 bs0 bg1 bz1 bl1 bs1 bn hS hs hC
           rw [hops.out, hQ.out, ha.out] at h
           try simp only [Act.put, y1, y2, y3, y4, y5, y6] at h
           exact h
        have L0_10 : Hid (∀ (W : World) (lo lo2 : Nat) (g0 : Nat), (RdSS W lo w.heap.size A0 n0 (rrBool l0)) → (w.heap.size ≤ W.heap.size) → (Rd W lo2 w.heap.size 2 A4 n4 (rRound l4)) → (w.heap.size ≤ W.heap.size) → (Box W g0 [.int .i64 0, .int .i64 0, .int .i64 0, .int .i64 0, .int .i64 0]) → (Fz W g0) → (g0 < W.heap.size) → (W0.heap.size ≤ g0) → (Box W (w.heap.size) [.int .i64 x1_0, .int .i64 x1_1] ∧ Box W (w.heap.size + 1) [.int .i64 x2_0, .int .i64 x2_1, .int .i64 x2_2, .int .i64 x2_3, .int .i64 x2_4] ∧ Box W (w.heap.size + 2) [.int .i64 x3_0, .int .i64 x3_1, .int .i64 x3_2, .int .i64 x3_3, .int .i64 x3_4]) → (W0.heap.size ≤ W.heap.size) → (Below W0.heap.size W0 W) → wpAnyH Try.prog .any ops' Q' (fun W : World => Box W (w.heap.size) [.int .i64 x1_0, .int .i64 x1_1] ∧ Box W (w.heap.size + 1) [.int .i64 x2_0, .int .i64 x2_1, .int .i64 x2_2, .int .i64 x2_3, .int .i64 x2_4] ∧ Box W (w.heap.size + 2) [.int .i64 x3_0, .int .i64 x3_1, .int .i64 x3_2, .int .i64 x3_3, .int .i64 x3_4]) 16 #[true, false, true, false, true, false, true, false, true, false, false, false, false, false, false, false, true, false, false, false, false, false] (Act.put a' (some 12) (.pointer (some ⟨g0, 0, none⟩))) W) := by
         refine hide ?_
         intro W lo lo2 g0 hrow hHi hrow2 hHi2 bg0 bz0 bl0 bs0 hS hs hC
         rw [hops.out, hQ.out, ha.out]
         try simp only [Act.put, y1, y2, y3, y4, y5, y6]
         have hq : w.heap.size + 3 ≤ W.heap.size := Nat.le_trans hp hs
         refine wpAnyH_ready (rs := [1, 17]) (by kernel_rfl) (by simp) ?_
         refine AllReadyH.cons rfl (fun K hK => ?_) (AllReadyH.cons rfl (fun K hK => ?_) (AllReadyH.nil))
         · go_simp
           refine (toBoolSS_any A0 n0 c0 _ w.heap.size l0 hn HROW.out _ hrow hHi).mono ?_
           rintro e V1 ⟨va, rfl, hoa, hb⟩
           replace hrow := hrow.below hb hHi
           replace hHi := Nat.le_trans hHi hb.size
           replace hrow2 := hrow2.below hb hHi2
           replace hHi2 := Nat.le_trans hHi2 hb.size
           replace bg0 := Box.below bg0 hb bl0
           replace bz0 := Fz.below bz0 hb bl0
           replace bl0 := Nat.lt_of_lt_of_le bl0 hb.size
           replace hS := hSb _ _ hq hb hS
           replace hC := hC.trans (hb.mono hs)
           replace hs := Nat.le_trans hs hb.size
           obtain ⟨Aa, ca, rfl, _, _, hra⟩ := hoa.rd; clear hoa hrow hHi; have hrow := hra; have hHi := Nat.le_refl V1.heap.size
           clear hb
           refine hK.out _ _ hS (fun hHeld => ?_)
           clear hK K
           try simp only [Act.put, y1, y2, y3, y4, y5, y6]
           clear hHeld
           have h := L1_10.out V1 Aa ca _ _ _ g0 hrow hHi hrow2 hHi2 bg0 bz0 bl0 bs0 hS hs hC
           rw [hops.out, hQ.out, ha.out] at h
           try simp only [Act.put, y1, y2, y3, y4, y5, y6] at h
           exact h
         · go_simp
           obtain ⟨V1, hN⟩ : ∃ V : World, V = World.alloc W (.cells #[.int .i64 0, .int .i64 0, .int .i64 0, .int .i64 0, .int .i64 0] 50) := ⟨_, rfl⟩
           rw [← hN]
           have hb : Below W.heap.size W V1 := by rw [hN]; exact (Below.refl _ _).alloc (Nat.le_refl _) _
           have bg1 : Box V1 W.heap.size [.int .i64 0, .int .i64 0, .int .i64 0, .int .i64 0, .int .i64 0] := by rw [hN]; exact box_new W #[.int .i64 0, .int .i64 0, .int .i64 0, .int .i64 0, .int .i64 0] 50
           have bz1 : Fz V1 W.heap.size := by rw [hN]; exact fz_at W #[.int .i64 0, .int .i64 0, .int .i64 0, .int .i64 0, .int .i64 0] 50 _ rfl
           have bl1 : W.heap.size < V1.heap.size := by rw [hN]; simp
           have bs1 : W0.heap.size ≤ W.heap.size := hs
           have bn : g0 ≠ W.heap.size := by omega
           clear hN
           replace hrow := hrow.below hb hHi
           replace hHi := Nat.le_trans hHi hb.size
           replace hrow2 := hrow2.below hb hHi2
           replace hHi2 := Nat.le_trans hHi2 hb.size
           replace bg0 := Box.below bg0 hb bl0
           replace bz0 := Fz.below bz0 hb bl0
           replace bl0 := Nat.lt_of_lt_of_le bl0 hb.size
           replace hS := hSb _ _ hq hb hS
           replace hC := hC.trans (hb.mono hs)
           replace hs := Nat.le_trans hs hb.size
           clear hb
           refine hK.out _ _ hS (fun hHeld => ?_)
           clear hK K
           try simp only [Act.put, y1, y2, y3, y4, y5, y6]
           clear hHeld
           have h := L0_11.out V1 _ _ g0 W.heap.size hrow hHi hrow2 hHi2 bg0 bz0 bl0 bs0 bg1 bz1 bl1 bs1 bn hS hs hC
           rw [hops.out, hQ.out, ha.out] at h
           try simp only [Act.put, y1, y2, y3, y4, y5, y6] at h
           exact h
        have L0_00 : Hid (∀ (W : World) (lo lo2 : Nat), (RdSS W lo w.heap.size A0 n0 (rrBool l0)) → (w.heap.size ≤ W.heap.size) → (Rd W lo2 w.heap.size 2 A4 n4 (rRound l4)) → (w.heap.size ≤ W.heap.size) → (Box W (w.heap.size) [.int .i64 x1_0, .int .i64 x1_1] ∧ Box W (w.heap.size + 1) [.int .i64 x2_0, .int .i64 x2_1, .int .i64 x2_2, .int .i64 x2_3, .int .i64 x2_4] ∧ Box W (w.heap.size + 2) [.int .i64 x3_0, .int .i64 x3_1, .int .i64 x3_2, .int .i64 x3_3, .int .i64 x3_4]) → (W0.heap.size ≤ W.heap.size) → (Below W0.heap.size W0 W) → wpAnyH Try.prog .any ops' Q' (fun W : World => Box W (w.heap.size) [.int .i64 x1_0, .int .i64 x1_1] ∧ Box W (w.heap.size + 1) [.int .i64 x2_0, .int .i64 x2_1, .int .i64 x2_2, .int .i64 x2_3, .int .i64 x2_4] ∧ Box W (w.heap.size + 2) [.int .i64 x3_0, .int .i64 x3_1, .int .i64 x3_2, .int .i64 x3_3, .int .i64 x3_4]) 17 #[true, false, true, false, true, false, true, false, true, false, false, false, false, false, false, false, false, false, false, false, false, false] a' W) := by
         refine hide ?_
         intro W lo lo2 hrow hHi hrow2 hHi2 hS hs hC
         rw [hops.out, hQ.out, ha.out]
         try simp only [Act.put, y1, y2, y3, y4, y5, y6]
         have hq : w.heap.size + 3 ≤ W.heap.size := Nat.le_trans hp hs
         refine wpAnyH_ready (rs := [1, 16, 17]) (by kernel_rfl) (by simp) ?_
         refine AllReadyH.cons rfl (fun K hK => ?_) (AllReadyH.cons rfl (fun K hK => ?_) (AllReadyH.cons rfl (fun K hK => ?_) (AllReadyH.nil)))
         · go_simp
           refine (toBoolSS_any A0 n0 c0 _ w.heap.size l0 hn HROW.out _ hrow hHi).mono ?_
           rintro e V1 ⟨va, rfl, hoa, hb⟩
           replace hrow := hrow.below hb hHi
           replace hHi := Nat.le_trans hHi hb.size
           replace hrow2 := hrow2.below hb hHi2
           replace hHi2 := Nat.le_trans hHi2 hb.size
           replace hS := hSb _ _ hq hb hS
           replace hC := hC.trans (hb.mono hs)
           replace hs := Nat.le_trans hs hb.size
           obtain ⟨Aa, ca, rfl, _, _, hra⟩ := hoa.rd; clear hoa hrow hHi; have hrow := hra; have hHi := Nat.le_refl V1.heap.size
           clear hb
           refine hK.out _ _ hS (fun hHeld => ?_)
           clear hK K
           try simp only [Act.put, y1, y2, y3, y4, y5, y6]
           clear hHeld
           have h := L1_00.out V1 Aa ca _ _ _ hrow hHi hrow2 hHi2 hS hs hC
           rw [hops.out, hQ.out, ha.out] at h
           try simp only [Act.put, y1, y2, y3, y4, y5, y6] at h
           exact h
         · go_simp
           obtain ⟨V1, hN⟩ : ∃ V : World, V = World.alloc W (.cells #[.int .i64 0, .int .i64 0, .int .i64 0, .int .i64 0, .int .i64 0] 50) := ⟨_, rfl⟩
           rw [← hN]
           have hb : Below W.heap.size W V1 := by rw [hN]; exact (Below.refl _ _).alloc (Nat.le_refl _) _
           have bg0 : Box V1 W.heap.size [.int .i64 0, .int .i64 0, .int .i64 0, .int .i64 0, .int .i64 0] := by rw [hN]; exact box_new W #[.int .i64 0, .int .i64 0, .int .i64 0, .int .i64 0, .int .i64 0] 50
           have bz0 : Fz V1 W.heap.size := by rw [hN]; exact fz_at W #[.int .i64 0, .int .i64 0, .int .i64 0, .int .i64 0, .int .i64 0] 50 _ rfl
           have bl0 : W.heap.size < V1.heap.size := by rw [hN]; simp
           have bs0 : W0.heap.size ≤ W.heap.size := hs
           clear hN
           replace hrow := hrow.below hb hHi
           replace hHi := Nat.le_trans hHi hb.size
           replace hrow2 := hrow2.below hb hHi2
           replace hHi2 := Nat.le_trans hHi2 hb.size
           replace hS := hSb _ _ hq hb hS
           replace hC := hC.trans (hb.mono hs)
           replace hs := Nat.le_trans hs hb.size
           clear hb
           refine hK.out _ _ hS (fun hHeld => ?_)
           clear hK K
           try simp only [Act.put, y1, y2, y3, y4, y5, y6]
           clear hHeld
           have h := L0_10.out V1 _ _ W.heap.size hrow hHi hrow2 hHi2 bg0 bz0 bl0 bs0 hS hs hC
           rw [hops.out, hQ.out, ha.out] at h
           try simp only [Act.put, y1, y2, y3, y4, y5, y6] at h
           exact h
         · go_simp
           obtain ⟨V1, hN⟩ : ∃ V : World, V = World.alloc W (.cells #[.int .i64 0, .int .i64 0, .int .i64 0, .int .i64 0, .int .i64 0] 50) := ⟨_, rfl⟩
           rw [← hN]
           have hb : Below W.heap.size W V1 := by rw [hN]; exact (Below.refl _ _).alloc (Nat.le_refl _) _
           have bg1 : Box V1 W.heap.size [.int .i64 0, .int .i64 0, .int .i64 0, .int .i64 0, .int .i64 0] := by rw [hN]; exact box_new W #[.int .i64 0, .int .i64 0, .int .i64 0, .int .i64 0, .int .i64 0] 50
           have bz1 : Fz V1 W.heap.size := by rw [hN]; exact fz_at W #[.int .i64 0, .int .i64 0, .int .i64 0, .int .i64 0, .int .i64 0] 50 _ rfl
           have bl1 : W.heap.size < V1.heap.size := by rw [hN]; simp
           have bs1 : W0.heap.size ≤ W.heap.size := hs
           clear hN
           replace hrow := hrow.below hb hHi
           replace hHi := Nat.le_trans hHi hb.size
           replace hrow2 := hrow2.below hb hHi2
           replace hHi2 := Nat.le_trans hHi2 hb.size
           replace hS := hSb _ _ hq hb hS
           replace hC := hC.trans (hb.mono hs)
           replace hs := Nat.le_trans hs hb.size
           clear hb
           refine hK.out _ _ hS (fun hHeld => ?_)
           clear hK K
           try simp only [Act.put, y1, y2, y3, y4, y5, y6]
           clear hHeld
           have h := L0_01.out V1 _ _ W.heap.size hrow hHi hrow2 hHi2 bg1 bz1 bl1 bs1 hS hs hC
           rw [hops.out, hQ.out, ha.out] at h
           try simp only [Act.put, y1, y2, y3, y4, y5, y6] at h
           exact h
        have hC : Below W0.heap.size W0 (World.drew W0) := (Below.refl _ _).drew
        exact L0_00.out _ _ _ (hr0.below hC (show w.heap.size ≤ W0.heap.size by omega)) (Nat.le_trans (show w.heap.size ≤ W0.heap.size by omega) hC.size) (hr4.below hC (show w.heap.size ≤ W0.heap.size by omega)) (Nat.le_trans (show w.heap.size ≤ W0.heap.size by omega) hC.size) hHeld hC.size hC
      case rest =>
        obtain ⟨rfl, rfl, gs12, hs12, rfl, rfl, hgs12, hhs12, _, hls12, _, hms12, hC⟩ := hcut
        rename World => w8
        have hs8 := hC.size
        replace hr0 := hr0.below hC (by omega)
        replace hr4 := hr4.below hC (by omega)
        replace hk1 := hk1.below hC (by omega)
        replace hk2 := hk2.below hC (by omega)
        replace hk3 := hk3.below hC (by omega)
        replace hB := hB.trans (hC.mono (by omega))
        clear hC
        go_wp2_with fail
        refine (toBoolSS_any A0 n0 c0 0 w.heap.size l0 hn HROW.out _ (by exact hr0) (by first | omega | (simp; omega))).mono ?_
        rintro e w9 ⟨vb, rfl, hob, hb⟩
        have hbb : Below w8.heap.size w8 w9 := Below.trans (by repeat (first | exact Below.refl _ _ | refine Below.drew ?_ | refine Below.alloc ?_ (by first | (simp; done) | (simp; omega)) _)) (Below.mono hb (by simp))
        clear hb
        have hs9 := hbb.size
        replace hr0 := hr0.below hbb (by omega)
        replace hr4 := hr4.below hbb (by omega)
        replace hk1 := hk1.below hbb (by omega)
        replace hk2 := hk2.below hbb (by omega)
        replace hk3 := hk3.below hbb (by omega)
        replace hgs12 := hgs12.below hbb (by omega)
        replace hhs12 := hhs12.below hbb (by omega)
        replace hB := hB.trans (hbb.mono (by omega))
        clear hbb
        obtain ⟨Ab, cb, rfl, _, _, hrb⟩ := hob.rd; obtain ⟨Hb, hHb, hob, hrb⟩ : ∃ H, H ≤ w9.heap.size ∧ OwnSS w9 _ H _ _ _ _ _ ∧ RdSS w9 _ H _ _ _ := ⟨_, Nat.le_refl _, hob, hrb⟩
        go_wp2_with fail
        refine (toRoundS_any A4 n4 c4 _ w.heap.size l4 hn4 _ hl4 hr4 (by omega)).mono ?_
        rintro e w10 ⟨vy, rfl, hoy, hb⟩
        have hbb : Below w9.heap.size w9 w10 := Below.trans (by repeat (first | exact Below.refl _ _ | refine Below.drew ?_ | refine Below.alloc ?_ (by first | (simp; done) | (simp; omega)) _)) (Below.mono hb (by simp))
        clear hb
        have hs10 := hbb.size
        replace hr0 := hr0.below hbb (by omega)
        replace hr4 := hr4.below hbb (by omega)
        replace hob := hob.below hbb (by omega)
        replace hrb := hrb.below hbb (by omega)
        replace hk1 := hk1.below hbb (by omega)
        replace hk2 := hk2.below hbb (by omega)
        replace hk3 := hk3.below hbb (by omega)
        replace hgs12 := hgs12.below hbb (by omega)
        replace hhs12 := hhs12.below hbb (by omega)
        replace hB := hB.trans (hbb.mono (by omega))
        clear hbb
        obtain ⟨Ay, cy, rfl, _, _, hry⟩ := hoy.rd; obtain ⟨Hy, hHy, hry⟩ : ∃ H, H ≤ w10.heap.size ∧ Rd w10 _ H 2 _ _ _ := ⟨_, Nat.le_refl _, hry⟩
        go_upto_region 11 with fail
        go_cut [18, 19, 20, 21] (fun s18 s19 s20 s21 wx => s20 = .int .i64 bd ∧ s21 = .int .i64 cc ∧ ∃ g h : Nat, s18 = .pointer (some ⟨g, 0, none⟩) ∧ s19 = .pointer (some ⟨h, 0, none⟩) ∧ Box wx g [.int .i64 p0, .int .i64 p1, .int .i64 p2, .int .i64 p3, .int .i64 p4] ∧ Box wx h [.int .i64 q0, .int .i64 q1, .int .i64 q2, .int .i64 q3, .int .i64 q4] ∧ w10.heap.size ≤ g ∧ g < wx.heap.size ∧ w10.heap.size ≤ h ∧ h < wx.heap.size ∧ Below w10.heap.size w10 wx)
        case first =>
          have hp : w.heap.size + 3 ≤ w10.heap.size := by omega
          have hSb : ∀ V N : World, w.heap.size + 3 ≤ V.heap.size → Below V.heap.size V N → (Box V (w.heap.size) [.int .i64 x1_0, .int .i64 x1_1] ∧ Box V (w.heap.size + 1) [.int .i64 x2_0, .int .i64 x2_1, .int .i64 x2_2, .int .i64 x2_3, .int .i64 x2_4] ∧ Box V (w.heap.size + 2) [.int .i64 x3_0, .int .i64 x3_1, .int .i64 x3_2, .int .i64 x3_3, .int .i64 x3_4]) → (Box N (w.heap.size) [.int .i64 x1_0, .int .i64 x1_1] ∧ Box N (w.heap.size + 1) [.int .i64 x2_0, .int .i64 x2_1, .int .i64 x2_2, .int .i64 x2_3, .int .i64 x2_4] ∧ Box N (w.heap.size + 2) [.int .i64 x3_0, .int .i64 x3_1, .int .i64 x3_2, .int .i64 x3_3, .int .i64 x3_4]) := fun V N hv hb ⟨q0, q1, q2⟩ => ⟨q0.below hb (by omega), q1.below hb (by omega), q2.below hb (by omega)⟩
          have hSs : ∀ (V N : World) (g : Nat) (a b c d e : Value), N = (((((V.setCell ⟨g, 0, none⟩ a).setCell ⟨g, 1, none⟩ b).setCell ⟨g, 2, none⟩ c).setCell ⟨g, 3, none⟩ d).setCell ⟨g, 4, none⟩ e) → w.heap.size + 3 ≤ g → (Box V (w.heap.size) [.int .i64 x1_0, .int .i64 x1_1] ∧ Box V (w.heap.size + 1) [.int .i64 x2_0, .int .i64 x2_1, .int .i64 x2_2, .int .i64 x2_3, .int .i64 x2_4] ∧ Box V (w.heap.size + 2) [.int .i64 x3_0, .int .i64 x3_1, .int .i64 x3_2, .int .i64 x3_3, .int .i64 x3_4]) → (Box N (w.heap.size) [.int .i64 x1_0, .int .i64 x1_1] ∧ Box N (w.heap.size + 1) [.int .i64 x2_0, .int .i64 x2_1, .int .i64 x2_2, .int .i64 x2_3, .int .i64 x2_4] ∧ Box N (w.heap.size + 2) [.int .i64 x3_0, .int .i64 x3_1, .int .i64 x3_2, .int .i64 x3_3, .int .i64 x3_4]) := fun V N g a b c d e hN hg ⟨q0, q1, q2⟩ => by subst hN; exact ⟨far5B q0 (by omega), far5B q1 (by omega), far5B q2 (by omega)⟩
          refine wp_region_held_drew (S := fun W : World => Box W (w.heap.size) [.int .i64 x1_0, .int .i64 x1_1] ∧ Box W (w.heap.size + 1) [.int .i64 x2_0, .int .i64 x2_1, .int .i64 x2_2, .int .i64 x2_3, .int .i64 x2_4] ∧ Box W (w.heap.size + 2) [.int .i64 x3_0, .int .i64 x3_1, .int .i64 x3_2, .int .i64 x3_3, .int .i64 x3_4]) (by kernel_rfl) (⟨hk1, hk2, hk3⟩) (fun hHeld => ?_)
          try simp only [Array.replicate, List.replicate]
          refine wpAnyH_take (i := 0) (v := ?_) rfl (by kernel_rfl) (by kernel_rfl) (by kernel_rfl) (fun _ _ _ h => h) (Or.inl ⟨by rfl, ?_⟩) (by assumption) ?_
          rotate_left
          · (intro W9 hSw; clear hSw; go_simp; try (with_reducible rfl))
          try simp only [Act.put, y1, y2, y3, y4, y5, y6]
          refine wpAnyH_take (i := 1) (v := ?_) rfl (by kernel_rfl) (by kernel_rfl) (by kernel_rfl) (fun _ _ _ h => h) (Or.inl ⟨by rfl, ?_⟩) (by assumption) ?_
          rotate_left
          · (intro W9 hSw; have k0 := hSw.1; have k0_0 := k0 0 _ rfl; have k0_1 := k0 1 _ rfl; clear hSw k0; go_simp; try (with_reducible rfl))
          try simp only [Act.put, y1, y2, y3, y4, y5, y6]
          refine wpAnyH_take (i := 3) (v := ?_) rfl (by kernel_rfl) (by kernel_rfl) (by kernel_rfl) (fun _ _ _ h => h) (Or.inl ⟨by rfl, ?_⟩) (by assumption) ?_
          rotate_left
          · (intro W9 hSw; have k1 := hSw.2.1; have k1_0 := k1 0 _ rfl; have k1_1 := k1 1 _ rfl; have k1_2 := k1 2 _ rfl; have k1_3 := k1 3 _ rfl; have k1_4 := k1 4 _ rfl; clear hSw k1; go_simp; try (with_reducible rfl))
          try simp only [Act.put, y1, y2, y3, y4, y5, y6]
          refine wpAnyH_take (i := 5) (v := ?_) rfl (by kernel_rfl) (by kernel_rfl) (by kernel_rfl) (fun _ _ _ h => h) (Or.inl ⟨by rfl, ?_⟩) (by assumption) ?_
          rotate_left
          · (intro W9 hSw; have k2 := hSw.2.2; have k2_0 := k2 0 _ rfl; have k2_1 := k2 1 _ rfl; have k2_2 := k2 2 _ rfl; have k2_3 := k2 3 _ rfl; have k2_4 := k2 4 _ rfl; clear hSw k2; go_simp; try (with_reducible rfl))
          try simp only [Act.put, y1, y2, y3, y4, y5, y6]
          refine wpAnyH_take (i := 7) (v := ?_) rfl (by kernel_rfl) (by kernel_rfl) (by kernel_rfl) (fun _ _ _ h => h) (Or.inl ⟨by rfl, ?_⟩) (by assumption) ?_
          rotate_left
          · (intro W9 hSw; clear hSw; go_simp; try (with_reducible rfl))
          try simp only [Act.put, y1, y2, y3, y4, y5, y6]
          refine wpAnyH_cap (fun ops' Q' a' hops hQ ha => ?_)
          have L4_22 : Hid (∀ (W : World)  (g0 : Nat) (g1 : Nat), (Box W g0 [.int .i64 p0, .int .i64 p1, .int .i64 p2, .int .i64 p3, .int .i64 p4]) → (g0 < W.heap.size) → (w10.heap.size ≤ g0) → (Box W g1 [.int .i64 q0, .int .i64 q1, .int .i64 q2, .int .i64 q3, .int .i64 q4]) → (g1 < W.heap.size) → (w10.heap.size ≤ g1) → (g0 ≠ g1) → (Box W (w.heap.size) [.int .i64 x1_0, .int .i64 x1_1] ∧ Box W (w.heap.size + 1) [.int .i64 x2_0, .int .i64 x2_1, .int .i64 x2_2, .int .i64 x2_3, .int .i64 x2_4] ∧ Box W (w.heap.size + 2) [.int .i64 x3_0, .int .i64 x3_1, .int .i64 x3_2, .int .i64 x3_3, .int .i64 x3_4]) → (w10.heap.size ≤ W.heap.size) → (Below w10.heap.size w10 W) → wpAnyH Try.prog .any ops' Q' (fun W : World => Box W (w.heap.size) [.int .i64 x1_0, .int .i64 x1_1] ∧ Box W (w.heap.size + 1) [.int .i64 x2_0, .int .i64 x2_1, .int .i64 x2_2, .int .i64 x2_3, .int .i64 x2_4] ∧ Box W (w.heap.size + 2) [.int .i64 x3_0, .int .i64 x3_1, .int .i64 x3_2, .int .i64 x3_3, .int .i64 x3_4]) 2 #[true, true, true, true, true, true, true, true, true, true, true, true, true, true, true, true, true, true, false, false] (Act.put (Act.put (Act.put (Act.put (Act.put (Act.put (Act.put (Act.put (Act.put (Act.put (Act.put a' (some 55) (.agg #[.int .i64 x1_0, .int .i64 x1_1])) (some 57) (.agg #[.int .i64 x2_0, .int .i64 x2_1, .int .i64 x2_2, .int .i64 x2_3, .int .i64 x2_4])) (some 59) (.agg #[.int .i64 x3_0, .int .i64 x3_1, .int .i64 x3_2, .int .i64 x3_3, .int .i64 x3_4])) (some 61) (.tuple #[.agg #[.int .i64 p0, .int .i64 p1, .int .i64 p2, .int .i64 p3, .int .i64 p4], .agg #[.int .i64 q0, .int .i64 q1, .int .i64 q2, .int .i64 q3, .int .i64 q4], .int .i64 bd, .int .i64 cc])) (some 52) (.tuple #[.agg #[.int .i64 p0, .int .i64 p1, .int .i64 p2, .int .i64 p3, .int .i64 p4], .agg #[.int .i64 q0, .int .i64 q1, .int .i64 q2, .int .i64 q3, .int .i64 q4], .int .i64 bd, .int .i64 cc])) (some 62) (.agg #[.int .i64 p0, .int .i64 p1, .int .i64 p2, .int .i64 p3, .int .i64 p4])) (some 63) (.agg #[.int .i64 q0, .int .i64 q1, .int .i64 q2, .int .i64 q3, .int .i64 q4])) (some 64) (.int .i64 bd)) (some 65) (.int .i64 cc)) (some 18) (.pointer (some ⟨g0, 0, none⟩))) (some 19) (.pointer (some ⟨g1, 0, none⟩))) W) := by
           refine hide ?_
           intro W g0 g1 bg0 bl0 bs0 bg1 bl1 bs1 bn hS hs hC
           rw [hops.out, hQ.out, ha.out]
           try simp only [Act.put, y1, y2, y3, y4, y5, y6]
           have hq : w.heap.size + 3 ≤ W.heap.size := Nat.le_trans hp hs
           have hHeld := hS
           refine wpAnyH_take (i := 18) (v := ?_) rfl (by kernel_rfl) (by kernel_rfl) (by kernel_rfl) (fun _ _ _ h => h) (Or.inl ⟨by rfl, ?_⟩) (by assumption) ?_
           rotate_left
           · (intro W9 hSw; clear hSw; go_simp; try (with_reducible rfl))
           try simp only [Act.put, y1, y2, y3, y4, y5, y6]
           refine wpAnyH_take (i := 19) (v := ?_) rfl (by kernel_rfl) (by kernel_rfl) (by kernel_rfl) (fun _ _ _ h => h) (Or.inl ⟨by rfl, ?_⟩) (by assumption) ?_
           rotate_left
           · (intro W9 hSw; clear hSw; go_simp; try (with_reducible rfl))
           try simp only [Act.put, y1, y2, y3, y4, y5, y6]
           refine wpAnyH_done (by kernel_rfl) ?_ _
           go_wp2_with fail
           go_meet
           exact ⟨rfl, rfl, _, _, rfl, rfl, bg0, bg1, bs0, bl0, bs1, bl1, hC⟩
          have L4_21 : Hid (∀ (W : World)  (g0 : Nat) (g1 : Nat), (Box W g0 [.int .i64 p0, .int .i64 p1, .int .i64 p2, .int .i64 p3, .int .i64 p4]) → (g0 < W.heap.size) → (w10.heap.size ≤ g0) → (Box W g1 [.int .i64 0, .int .i64 0, .int .i64 0, .int .i64 0, .int .i64 0]) → (Fz W g1) → (g1 < W.heap.size) → (w10.heap.size ≤ g1) → (g0 ≠ g1) → (Box W (w.heap.size) [.int .i64 x1_0, .int .i64 x1_1] ∧ Box W (w.heap.size + 1) [.int .i64 x2_0, .int .i64 x2_1, .int .i64 x2_2, .int .i64 x2_3, .int .i64 x2_4] ∧ Box W (w.heap.size + 2) [.int .i64 x3_0, .int .i64 x3_1, .int .i64 x3_2, .int .i64 x3_3, .int .i64 x3_4]) → (w10.heap.size ≤ W.heap.size) → (Below w10.heap.size w10 W) → wpAnyH Try.prog .any ops' Q' (fun W : World => Box W (w.heap.size) [.int .i64 x1_0, .int .i64 x1_1] ∧ Box W (w.heap.size + 1) [.int .i64 x2_0, .int .i64 x2_1, .int .i64 x2_2, .int .i64 x2_3, .int .i64 x2_4] ∧ Box W (w.heap.size + 2) [.int .i64 x3_0, .int .i64 x3_1, .int .i64 x3_2, .int .i64 x3_3, .int .i64 x3_4]) 3 #[true, true, true, true, true, true, true, true, true, true, true, true, true, true, true, true, true, false, false, false] (Act.put (Act.put (Act.put (Act.put (Act.put (Act.put (Act.put (Act.put (Act.put (Act.put (Act.put a' (some 55) (.agg #[.int .i64 x1_0, .int .i64 x1_1])) (some 57) (.agg #[.int .i64 x2_0, .int .i64 x2_1, .int .i64 x2_2, .int .i64 x2_3, .int .i64 x2_4])) (some 59) (.agg #[.int .i64 x3_0, .int .i64 x3_1, .int .i64 x3_2, .int .i64 x3_3, .int .i64 x3_4])) (some 61) (.tuple #[.agg #[.int .i64 p0, .int .i64 p1, .int .i64 p2, .int .i64 p3, .int .i64 p4], .agg #[.int .i64 q0, .int .i64 q1, .int .i64 q2, .int .i64 q3, .int .i64 q4], .int .i64 bd, .int .i64 cc])) (some 52) (.tuple #[.agg #[.int .i64 p0, .int .i64 p1, .int .i64 p2, .int .i64 p3, .int .i64 p4], .agg #[.int .i64 q0, .int .i64 q1, .int .i64 q2, .int .i64 q3, .int .i64 q4], .int .i64 bd, .int .i64 cc])) (some 62) (.agg #[.int .i64 p0, .int .i64 p1, .int .i64 p2, .int .i64 p3, .int .i64 p4])) (some 63) (.agg #[.int .i64 q0, .int .i64 q1, .int .i64 q2, .int .i64 q3, .int .i64 q4])) (some 64) (.int .i64 bd)) (some 65) (.int .i64 cc)) (some 18) (.pointer (some ⟨g0, 0, none⟩))) (some 19) (.pointer (some ⟨g1, 0, none⟩))) W) := by
           refine hide ?_
           intro W g0 g1 bg0 bl0 bs0 bg1 bz1 bl1 bs1 bn hS hs hC
           rw [hops.out, hQ.out, ha.out]
           try simp only [Act.put, y1, y2, y3, y4, y5, y6]
           have hq : w.heap.size + 3 ≤ W.heap.size := Nat.le_trans hp hs
           have lg1_0 := bg1 0 _ rfl; have lz1_0 := bz1 0
           have lg1_1 := bg1 1 _ rfl; have lz1_1 := bz1 1
           have lg1_2 := bg1 2 _ rfl; have lz1_2 := bz1 2
           have lg1_3 := bg1 3 _ rfl; have lz1_3 := bz1 3
           have lg1_4 := bg1 4 _ rfl; have lz1_4 := bz1 4
           refine wpAnyH_ready (rs := [17]) (by kernel_rfl) (by simp) ?_
           refine AllReadyH.cons rfl (fun K hK => ?_) (AllReadyH.nil)
           · go_simp
             obtain ⟨V1, hN⟩ : ∃ V : World, V = (World.setCell (World.setCell (World.setCell (World.setCell (World.setCell W ⟨g1, 0, none⟩ (.int .i64 q0)) ⟨g1, 1, none⟩ (.int .i64 q1)) ⟨g1, 2, none⟩ (.int .i64 q2)) ⟨g1, 3, none⟩ (.int .i64 q3)) ⟨g1, 4, none⟩ (.int .i64 q4)) := ⟨_, rfl⟩
             rw [← hN]
             replace hS := hSs _ _ _ _ _ _ _ _ hN (Nat.le_trans hp bs1) hS
             replace bg1 : Box V1 g1 [.int .i64 q0, .int .i64 q1, .int .i64 q2, .int .i64 q3, .int .i64 q4] := by rw [hN]; exact put5 bg1 rfl
             have hsz : V1.heap.size = W.heap.size := by rw [hN]; exact size5
             replace bl1 : g1 < V1.heap.size := by rw [hsz]; exact bl1
             replace bg0 : Box V1 g0 [.int .i64 p0, .int .i64 p1, .int .i64 p2, .int .i64 p3, .int .i64 p4] := by rw [hN]; exact far5B bg0 (by omega)
             replace bl0 : g0 < V1.heap.size := by rw [hsz]; exact bl0
             replace hC : Below w10.heap.size w10 V1 := by rw [hN]; exact below5 bs1 hC
             replace hs : w10.heap.size ≤ V1.heap.size := by rw [hsz]; exact hs
             clear hN hsz
             refine hK.out _ _ hS (fun hHeld => ?_)
             clear hK K
             try simp only [Act.put, y1, y2, y3, y4, y5, y6]
             clear hHeld
             have h := L4_22.out V1 g0 g1 bg0 bl0 bs0 bg1 bl1 bs1 bn hS hs hC
             rw [hops.out, hQ.out, ha.out] at h
             try simp only [Act.put, y1, y2, y3, y4, y5, y6] at h
             exact h
          have L4_11 : Hid (∀ (W : World)  (g0 : Nat) (g1 : Nat), (Box W g0 [.int .i64 0, .int .i64 0, .int .i64 0, .int .i64 0, .int .i64 0]) → (Fz W g0) → (g0 < W.heap.size) → (w10.heap.size ≤ g0) → (Box W g1 [.int .i64 0, .int .i64 0, .int .i64 0, .int .i64 0, .int .i64 0]) → (Fz W g1) → (g1 < W.heap.size) → (w10.heap.size ≤ g1) → (g0 ≠ g1) → (Box W (w.heap.size) [.int .i64 x1_0, .int .i64 x1_1] ∧ Box W (w.heap.size + 1) [.int .i64 x2_0, .int .i64 x2_1, .int .i64 x2_2, .int .i64 x2_3, .int .i64 x2_4] ∧ Box W (w.heap.size + 2) [.int .i64 x3_0, .int .i64 x3_1, .int .i64 x3_2, .int .i64 x3_3, .int .i64 x3_4]) → (w10.heap.size ≤ W.heap.size) → (Below w10.heap.size w10 W) → wpAnyH Try.prog .any ops' Q' (fun W : World => Box W (w.heap.size) [.int .i64 x1_0, .int .i64 x1_1] ∧ Box W (w.heap.size + 1) [.int .i64 x2_0, .int .i64 x2_1, .int .i64 x2_2, .int .i64 x2_3, .int .i64 x2_4] ∧ Box W (w.heap.size + 2) [.int .i64 x3_0, .int .i64 x3_1, .int .i64 x3_2, .int .i64 x3_3, .int .i64 x3_4]) 4 #[true, true, true, true, true, true, true, true, true, true, true, true, true, true, true, true, false, false, false, false] (Act.put (Act.put (Act.put (Act.put (Act.put (Act.put (Act.put (Act.put (Act.put (Act.put (Act.put a' (some 55) (.agg #[.int .i64 x1_0, .int .i64 x1_1])) (some 57) (.agg #[.int .i64 x2_0, .int .i64 x2_1, .int .i64 x2_2, .int .i64 x2_3, .int .i64 x2_4])) (some 59) (.agg #[.int .i64 x3_0, .int .i64 x3_1, .int .i64 x3_2, .int .i64 x3_3, .int .i64 x3_4])) (some 61) (.tuple #[.agg #[.int .i64 p0, .int .i64 p1, .int .i64 p2, .int .i64 p3, .int .i64 p4], .agg #[.int .i64 q0, .int .i64 q1, .int .i64 q2, .int .i64 q3, .int .i64 q4], .int .i64 bd, .int .i64 cc])) (some 52) (.tuple #[.agg #[.int .i64 p0, .int .i64 p1, .int .i64 p2, .int .i64 p3, .int .i64 p4], .agg #[.int .i64 q0, .int .i64 q1, .int .i64 q2, .int .i64 q3, .int .i64 q4], .int .i64 bd, .int .i64 cc])) (some 62) (.agg #[.int .i64 p0, .int .i64 p1, .int .i64 p2, .int .i64 p3, .int .i64 p4])) (some 63) (.agg #[.int .i64 q0, .int .i64 q1, .int .i64 q2, .int .i64 q3, .int .i64 q4])) (some 64) (.int .i64 bd)) (some 65) (.int .i64 cc)) (some 18) (.pointer (some ⟨g0, 0, none⟩))) (some 19) (.pointer (some ⟨g1, 0, none⟩))) W) := by
           refine hide ?_
           intro W g0 g1 bg0 bz0 bl0 bs0 bg1 bz1 bl1 bs1 bn hS hs hC
           rw [hops.out, hQ.out, ha.out]
           try simp only [Act.put, y1, y2, y3, y4, y5, y6]
           have hq : w.heap.size + 3 ≤ W.heap.size := Nat.le_trans hp hs
           have lg0_0 := bg0 0 _ rfl; have lz0_0 := bz0 0
           have lg0_1 := bg0 1 _ rfl; have lz0_1 := bz0 1
           have lg0_2 := bg0 2 _ rfl; have lz0_2 := bz0 2
           have lg0_3 := bg0 3 _ rfl; have lz0_3 := bz0 3
           have lg0_4 := bg0 4 _ rfl; have lz0_4 := bz0 4
           refine wpAnyH_ready (rs := [16]) (by kernel_rfl) (by simp) ?_
           refine AllReadyH.cons rfl (fun K hK => ?_) (AllReadyH.nil)
           · go_simp
             obtain ⟨V1, hN⟩ : ∃ V : World, V = (World.setCell (World.setCell (World.setCell (World.setCell (World.setCell W ⟨g0, 0, none⟩ (.int .i64 p0)) ⟨g0, 1, none⟩ (.int .i64 p1)) ⟨g0, 2, none⟩ (.int .i64 p2)) ⟨g0, 3, none⟩ (.int .i64 p3)) ⟨g0, 4, none⟩ (.int .i64 p4)) := ⟨_, rfl⟩
             rw [← hN]
             replace hS := hSs _ _ _ _ _ _ _ _ hN (Nat.le_trans hp bs0) hS
             replace bg0 : Box V1 g0 [.int .i64 p0, .int .i64 p1, .int .i64 p2, .int .i64 p3, .int .i64 p4] := by rw [hN]; exact put5 bg0 rfl
             have hsz : V1.heap.size = W.heap.size := by rw [hN]; exact size5
             replace bl0 : g0 < V1.heap.size := by rw [hsz]; exact bl0
             replace bg1 : Box V1 g1 [.int .i64 0, .int .i64 0, .int .i64 0, .int .i64 0, .int .i64 0] := by rw [hN]; exact far5B bg1 (by omega)
             replace bz1 : Fz V1 g1 := by rw [hN]; exact ((((bz1.set _ _).set _ _).set _ _).set _ _).set _ _
             replace bl1 : g1 < V1.heap.size := by rw [hsz]; exact bl1
             replace hC : Below w10.heap.size w10 V1 := by rw [hN]; exact below5 bs0 hC
             replace hs : w10.heap.size ≤ V1.heap.size := by rw [hsz]; exact hs
             clear hN hsz
             refine hK.out _ _ hS (fun hHeld => ?_)
             clear hK K
             try simp only [Act.put, y1, y2, y3, y4, y5, y6]
             clear hHeld
             have h := L4_21.out V1 g0 g1 bg0 bl0 bs0 bg1 bz1 bl1 bs1 bn hS hs hC
             rw [hops.out, hQ.out, ha.out] at h
             try simp only [Act.put, y1, y2, y3, y4, y5, y6] at h
             exact h
          have L4_01 : Hid (∀ (W : World)  (g1 : Nat), (Box W g1 [.int .i64 0, .int .i64 0, .int .i64 0, .int .i64 0, .int .i64 0]) → (Fz W g1) → (g1 < W.heap.size) → (w10.heap.size ≤ g1) → (Box W (w.heap.size) [.int .i64 x1_0, .int .i64 x1_1] ∧ Box W (w.heap.size + 1) [.int .i64 x2_0, .int .i64 x2_1, .int .i64 x2_2, .int .i64 x2_3, .int .i64 x2_4] ∧ Box W (w.heap.size + 2) [.int .i64 x3_0, .int .i64 x3_1, .int .i64 x3_2, .int .i64 x3_3, .int .i64 x3_4]) → (w10.heap.size ≤ W.heap.size) → (Below w10.heap.size w10 W) → wpAnyH Try.prog .any ops' Q' (fun W : World => Box W (w.heap.size) [.int .i64 x1_0, .int .i64 x1_1] ∧ Box W (w.heap.size + 1) [.int .i64 x2_0, .int .i64 x2_1, .int .i64 x2_2, .int .i64 x2_3, .int .i64 x2_4] ∧ Box W (w.heap.size + 2) [.int .i64 x3_0, .int .i64 x3_1, .int .i64 x3_2, .int .i64 x3_3, .int .i64 x3_4]) 5 #[true, true, true, true, true, true, true, true, true, true, true, true, true, true, false, true, false, false, false, false] (Act.put (Act.put (Act.put (Act.put (Act.put (Act.put (Act.put (Act.put (Act.put (Act.put a' (some 55) (.agg #[.int .i64 x1_0, .int .i64 x1_1])) (some 57) (.agg #[.int .i64 x2_0, .int .i64 x2_1, .int .i64 x2_2, .int .i64 x2_3, .int .i64 x2_4])) (some 59) (.agg #[.int .i64 x3_0, .int .i64 x3_1, .int .i64 x3_2, .int .i64 x3_3, .int .i64 x3_4])) (some 61) (.tuple #[.agg #[.int .i64 p0, .int .i64 p1, .int .i64 p2, .int .i64 p3, .int .i64 p4], .agg #[.int .i64 q0, .int .i64 q1, .int .i64 q2, .int .i64 q3, .int .i64 q4], .int .i64 bd, .int .i64 cc])) (some 52) (.tuple #[.agg #[.int .i64 p0, .int .i64 p1, .int .i64 p2, .int .i64 p3, .int .i64 p4], .agg #[.int .i64 q0, .int .i64 q1, .int .i64 q2, .int .i64 q3, .int .i64 q4], .int .i64 bd, .int .i64 cc])) (some 62) (.agg #[.int .i64 p0, .int .i64 p1, .int .i64 p2, .int .i64 p3, .int .i64 p4])) (some 63) (.agg #[.int .i64 q0, .int .i64 q1, .int .i64 q2, .int .i64 q3, .int .i64 q4])) (some 64) (.int .i64 bd)) (some 65) (.int .i64 cc)) (some 19) (.pointer (some ⟨g1, 0, none⟩))) W) := by
           refine hide ?_
           intro W g1 bg1 bz1 bl1 bs1 hS hs hC
           rw [hops.out, hQ.out, ha.out]
           try simp only [Act.put, y1, y2, y3, y4, y5, y6]
           have hq : w.heap.size + 3 ≤ W.heap.size := Nat.le_trans hp hs
           refine wpAnyH_ready (rs := [14]) (by kernel_rfl) (by simp) ?_
           refine AllReadyH.cons rfl (fun K hK => ?_) (AllReadyH.nil)
           · go_simp
             obtain ⟨V1, hN⟩ : ∃ V : World, V = World.alloc W (.cells #[.int .i64 0, .int .i64 0, .int .i64 0, .int .i64 0, .int .i64 0] 50) := ⟨_, rfl⟩
             rw [← hN]
             have hb : Below W.heap.size W V1 := by rw [hN]; exact (Below.refl _ _).alloc (Nat.le_refl _) _
             have bg0 : Box V1 W.heap.size [.int .i64 0, .int .i64 0, .int .i64 0, .int .i64 0, .int .i64 0] := by rw [hN]; exact box_new W #[.int .i64 0, .int .i64 0, .int .i64 0, .int .i64 0, .int .i64 0] 50
             have bz0 : Fz V1 W.heap.size := by rw [hN]; exact fz_at W #[.int .i64 0, .int .i64 0, .int .i64 0, .int .i64 0, .int .i64 0] 50 _ rfl
             have bl0 : W.heap.size < V1.heap.size := by rw [hN]; simp
             have bs0 : w10.heap.size ≤ W.heap.size := hs
             have bn : W.heap.size ≠ g1 := by omega
             clear hN
             replace bg1 := Box.below bg1 hb bl1
             replace bz1 := Fz.below bz1 hb bl1
             replace bl1 := Nat.lt_of_lt_of_le bl1 hb.size
             replace hS := hSb _ _ hq hb hS
             replace hC := hC.trans (hb.mono hs)
             replace hs := Nat.le_trans hs hb.size
             clear hb
             refine hK.out _ _ hS (fun hHeld => ?_)
             clear hK K
             try simp only [Act.put, y1, y2, y3, y4, y5, y6]
             clear hHeld
             have h := L4_11.out V1 W.heap.size g1 bg0 bz0 bl0 bs0 bg1 bz1 bl1 bs1 bn hS hs hC
             rw [hops.out, hQ.out, ha.out] at h
             try simp only [Act.put, y1, y2, y3, y4, y5, y6] at h
             exact h
          have L4_10 : Hid (∀ (W : World)  (g0 : Nat), (Box W g0 [.int .i64 0, .int .i64 0, .int .i64 0, .int .i64 0, .int .i64 0]) → (Fz W g0) → (g0 < W.heap.size) → (w10.heap.size ≤ g0) → (Box W (w.heap.size) [.int .i64 x1_0, .int .i64 x1_1] ∧ Box W (w.heap.size + 1) [.int .i64 x2_0, .int .i64 x2_1, .int .i64 x2_2, .int .i64 x2_3, .int .i64 x2_4] ∧ Box W (w.heap.size + 2) [.int .i64 x3_0, .int .i64 x3_1, .int .i64 x3_2, .int .i64 x3_3, .int .i64 x3_4]) → (w10.heap.size ≤ W.heap.size) → (Below w10.heap.size w10 W) → wpAnyH Try.prog .any ops' Q' (fun W : World => Box W (w.heap.size) [.int .i64 x1_0, .int .i64 x1_1] ∧ Box W (w.heap.size + 1) [.int .i64 x2_0, .int .i64 x2_1, .int .i64 x2_2, .int .i64 x2_3, .int .i64 x2_4] ∧ Box W (w.heap.size + 2) [.int .i64 x3_0, .int .i64 x3_1, .int .i64 x3_2, .int .i64 x3_3, .int .i64 x3_4]) 5 #[true, true, true, true, true, true, true, true, true, true, true, true, true, true, true, false, false, false, false, false] (Act.put (Act.put (Act.put (Act.put (Act.put (Act.put (Act.put (Act.put (Act.put (Act.put a' (some 55) (.agg #[.int .i64 x1_0, .int .i64 x1_1])) (some 57) (.agg #[.int .i64 x2_0, .int .i64 x2_1, .int .i64 x2_2, .int .i64 x2_3, .int .i64 x2_4])) (some 59) (.agg #[.int .i64 x3_0, .int .i64 x3_1, .int .i64 x3_2, .int .i64 x3_3, .int .i64 x3_4])) (some 61) (.tuple #[.agg #[.int .i64 p0, .int .i64 p1, .int .i64 p2, .int .i64 p3, .int .i64 p4], .agg #[.int .i64 q0, .int .i64 q1, .int .i64 q2, .int .i64 q3, .int .i64 q4], .int .i64 bd, .int .i64 cc])) (some 52) (.tuple #[.agg #[.int .i64 p0, .int .i64 p1, .int .i64 p2, .int .i64 p3, .int .i64 p4], .agg #[.int .i64 q0, .int .i64 q1, .int .i64 q2, .int .i64 q3, .int .i64 q4], .int .i64 bd, .int .i64 cc])) (some 62) (.agg #[.int .i64 p0, .int .i64 p1, .int .i64 p2, .int .i64 p3, .int .i64 p4])) (some 63) (.agg #[.int .i64 q0, .int .i64 q1, .int .i64 q2, .int .i64 q3, .int .i64 q4])) (some 64) (.int .i64 bd)) (some 65) (.int .i64 cc)) (some 18) (.pointer (some ⟨g0, 0, none⟩))) W) := by
           refine hide ?_
           intro W g0 bg0 bz0 bl0 bs0 hS hs hC
           rw [hops.out, hQ.out, ha.out]
           try simp only [Act.put, y1, y2, y3, y4, y5, y6]
           have hq : w.heap.size + 3 ≤ W.heap.size := Nat.le_trans hp hs
           refine wpAnyH_ready (rs := [15]) (by kernel_rfl) (by simp) ?_
           refine AllReadyH.cons rfl (fun K hK => ?_) (AllReadyH.nil)
           · go_simp
             obtain ⟨V1, hN⟩ : ∃ V : World, V = World.alloc W (.cells #[.int .i64 0, .int .i64 0, .int .i64 0, .int .i64 0, .int .i64 0] 50) := ⟨_, rfl⟩
             rw [← hN]
             have hb : Below W.heap.size W V1 := by rw [hN]; exact (Below.refl _ _).alloc (Nat.le_refl _) _
             have bg1 : Box V1 W.heap.size [.int .i64 0, .int .i64 0, .int .i64 0, .int .i64 0, .int .i64 0] := by rw [hN]; exact box_new W #[.int .i64 0, .int .i64 0, .int .i64 0, .int .i64 0, .int .i64 0] 50
             have bz1 : Fz V1 W.heap.size := by rw [hN]; exact fz_at W #[.int .i64 0, .int .i64 0, .int .i64 0, .int .i64 0, .int .i64 0] 50 _ rfl
             have bl1 : W.heap.size < V1.heap.size := by rw [hN]; simp
             have bs1 : w10.heap.size ≤ W.heap.size := hs
             have bn : g0 ≠ W.heap.size := by omega
             clear hN
             replace bg0 := Box.below bg0 hb bl0
             replace bz0 := Fz.below bz0 hb bl0
             replace bl0 := Nat.lt_of_lt_of_le bl0 hb.size
             replace hS := hSb _ _ hq hb hS
             replace hC := hC.trans (hb.mono hs)
             replace hs := Nat.le_trans hs hb.size
             clear hb
             refine hK.out _ _ hS (fun hHeld => ?_)
             clear hK K
             try simp only [Act.put, y1, y2, y3, y4, y5, y6]
             clear hHeld
             have h := L4_11.out V1 g0 W.heap.size bg0 bz0 bl0 bs0 bg1 bz1 bl1 bs1 bn hS hs hC
             rw [hops.out, hQ.out, ha.out] at h
             try simp only [Act.put, y1, y2, y3, y4, y5, y6] at h
             exact h
          have L4_00 : Hid (∀ (W : World) , (Box W (w.heap.size) [.int .i64 x1_0, .int .i64 x1_1] ∧ Box W (w.heap.size + 1) [.int .i64 x2_0, .int .i64 x2_1, .int .i64 x2_2, .int .i64 x2_3, .int .i64 x2_4] ∧ Box W (w.heap.size + 2) [.int .i64 x3_0, .int .i64 x3_1, .int .i64 x3_2, .int .i64 x3_3, .int .i64 x3_4]) → (w10.heap.size ≤ W.heap.size) → (Below w10.heap.size w10 W) → wpAnyH Try.prog .any ops' Q' (fun W : World => Box W (w.heap.size) [.int .i64 x1_0, .int .i64 x1_1] ∧ Box W (w.heap.size + 1) [.int .i64 x2_0, .int .i64 x2_1, .int .i64 x2_2, .int .i64 x2_3, .int .i64 x2_4] ∧ Box W (w.heap.size + 2) [.int .i64 x3_0, .int .i64 x3_1, .int .i64 x3_2, .int .i64 x3_3, .int .i64 x3_4]) 6 #[true, true, true, true, true, true, true, true, true, true, true, true, true, true, false, false, false, false, false, false] (Act.put (Act.put (Act.put (Act.put (Act.put (Act.put (Act.put (Act.put (Act.put a' (some 55) (.agg #[.int .i64 x1_0, .int .i64 x1_1])) (some 57) (.agg #[.int .i64 x2_0, .int .i64 x2_1, .int .i64 x2_2, .int .i64 x2_3, .int .i64 x2_4])) (some 59) (.agg #[.int .i64 x3_0, .int .i64 x3_1, .int .i64 x3_2, .int .i64 x3_3, .int .i64 x3_4])) (some 61) (.tuple #[.agg #[.int .i64 p0, .int .i64 p1, .int .i64 p2, .int .i64 p3, .int .i64 p4], .agg #[.int .i64 q0, .int .i64 q1, .int .i64 q2, .int .i64 q3, .int .i64 q4], .int .i64 bd, .int .i64 cc])) (some 52) (.tuple #[.agg #[.int .i64 p0, .int .i64 p1, .int .i64 p2, .int .i64 p3, .int .i64 p4], .agg #[.int .i64 q0, .int .i64 q1, .int .i64 q2, .int .i64 q3, .int .i64 q4], .int .i64 bd, .int .i64 cc])) (some 62) (.agg #[.int .i64 p0, .int .i64 p1, .int .i64 p2, .int .i64 p3, .int .i64 p4])) (some 63) (.agg #[.int .i64 q0, .int .i64 q1, .int .i64 q2, .int .i64 q3, .int .i64 q4])) (some 64) (.int .i64 bd)) (some 65) (.int .i64 cc)) W) := by
           refine hide ?_
           intro W  hS hs hC
           rw [hops.out, hQ.out, ha.out]
           try simp only [Act.put, y1, y2, y3, y4, y5, y6]
           have hq : w.heap.size + 3 ≤ W.heap.size := Nat.le_trans hp hs
           refine wpAnyH_ready (rs := [14, 15]) (by kernel_rfl) (by simp) ?_
           refine AllReadyH.cons rfl (fun K hK => ?_) (AllReadyH.cons rfl (fun K hK => ?_) (AllReadyH.nil))
           · go_simp
             obtain ⟨V1, hN⟩ : ∃ V : World, V = World.alloc W (.cells #[.int .i64 0, .int .i64 0, .int .i64 0, .int .i64 0, .int .i64 0] 50) := ⟨_, rfl⟩
             rw [← hN]
             have hb : Below W.heap.size W V1 := by rw [hN]; exact (Below.refl _ _).alloc (Nat.le_refl _) _
             have bg0 : Box V1 W.heap.size [.int .i64 0, .int .i64 0, .int .i64 0, .int .i64 0, .int .i64 0] := by rw [hN]; exact box_new W #[.int .i64 0, .int .i64 0, .int .i64 0, .int .i64 0, .int .i64 0] 50
             have bz0 : Fz V1 W.heap.size := by rw [hN]; exact fz_at W #[.int .i64 0, .int .i64 0, .int .i64 0, .int .i64 0, .int .i64 0] 50 _ rfl
             have bl0 : W.heap.size < V1.heap.size := by rw [hN]; simp
             have bs0 : w10.heap.size ≤ W.heap.size := hs
             clear hN
             replace hS := hSb _ _ hq hb hS
             replace hC := hC.trans (hb.mono hs)
             replace hs := Nat.le_trans hs hb.size
             clear hb
             refine hK.out _ _ hS (fun hHeld => ?_)
             clear hK K
             try simp only [Act.put, y1, y2, y3, y4, y5, y6]
             clear hHeld
             have h := L4_10.out V1 W.heap.size bg0 bz0 bl0 bs0 hS hs hC
             rw [hops.out, hQ.out, ha.out] at h
             try simp only [Act.put, y1, y2, y3, y4, y5, y6] at h
             exact h
           · go_simp
             obtain ⟨V1, hN⟩ : ∃ V : World, V = World.alloc W (.cells #[.int .i64 0, .int .i64 0, .int .i64 0, .int .i64 0, .int .i64 0] 50) := ⟨_, rfl⟩
             rw [← hN]
             have hb : Below W.heap.size W V1 := by rw [hN]; exact (Below.refl _ _).alloc (Nat.le_refl _) _
             have bg1 : Box V1 W.heap.size [.int .i64 0, .int .i64 0, .int .i64 0, .int .i64 0, .int .i64 0] := by rw [hN]; exact box_new W #[.int .i64 0, .int .i64 0, .int .i64 0, .int .i64 0, .int .i64 0] 50
             have bz1 : Fz V1 W.heap.size := by rw [hN]; exact fz_at W #[.int .i64 0, .int .i64 0, .int .i64 0, .int .i64 0, .int .i64 0] 50 _ rfl
             have bl1 : W.heap.size < V1.heap.size := by rw [hN]; simp
             have bs1 : w10.heap.size ≤ W.heap.size := hs
             clear hN
             replace hS := hSb _ _ hq hb hS
             replace hC := hC.trans (hb.mono hs)
             replace hs := Nat.le_trans hs hb.size
             clear hb
             refine hK.out _ _ hS (fun hHeld => ?_)
             clear hK K
             try simp only [Act.put, y1, y2, y3, y4, y5, y6]
             clear hHeld
             have h := L4_01.out V1 W.heap.size bg1 bz1 bl1 bs1 hS hs hC
             rw [hops.out, hQ.out, ha.out] at h
             try simp only [Act.put, y1, y2, y3, y4, y5, y6] at h
             exact h
          have L3_11 : Hid (∀ (W : World) (lo lo2 : Nat) (g0 : Nat) (g1 : Nat), (RdSS W lo Hb Ab n0 (rrBool l0)) → (Hb ≤ W.heap.size) → (Rd W lo2 Hy 2 Ay n4 (rRound l4)) → (Hy ≤ W.heap.size) → (Box W g0 [.int .i64 0, .int .i64 0, .int .i64 0, .int .i64 0, .int .i64 0]) → (Fz W g0) → (g0 < W.heap.size) → (w10.heap.size ≤ g0) → (Box W g1 [.int .i64 0, .int .i64 0, .int .i64 0, .int .i64 0, .int .i64 0]) → (Fz W g1) → (g1 < W.heap.size) → (w10.heap.size ≤ g1) → (g0 ≠ g1) → (Box W (w.heap.size) [.int .i64 x1_0, .int .i64 x1_1] ∧ Box W (w.heap.size + 1) [.int .i64 x2_0, .int .i64 x2_1, .int .i64 x2_2, .int .i64 x2_3, .int .i64 x2_4] ∧ Box W (w.heap.size + 2) [.int .i64 x3_0, .int .i64 x3_1, .int .i64 x3_2, .int .i64 x3_3, .int .i64 x3_4]) → (w10.heap.size ≤ W.heap.size) → (Below w10.heap.size w10 W) → wpAnyH Try.prog .any ops' Q' (fun W : World => Box W (w.heap.size) [.int .i64 x1_0, .int .i64 x1_1] ∧ Box W (w.heap.size + 1) [.int .i64 x2_0, .int .i64 x2_1, .int .i64 x2_2, .int .i64 x2_3, .int .i64 x2_4] ∧ Box W (w.heap.size + 2) [.int .i64 x3_0, .int .i64 x3_1, .int .i64 x3_2, .int .i64 x3_3, .int .i64 x3_4]) 10 #[true, true, true, true, true, true, true, true, false, false, false, false, false, false, true, true, false, false, false, false] (Act.put (Act.put (Act.put (Act.put (Act.put a' (some 55) (.agg #[.int .i64 x1_0, .int .i64 x1_1])) (some 57) (.agg #[.int .i64 x2_0, .int .i64 x2_1, .int .i64 x2_2, .int .i64 x2_3, .int .i64 x2_4])) (some 59) (.agg #[.int .i64 x3_0, .int .i64 x3_1, .int .i64 x3_2, .int .i64 x3_3, .int .i64 x3_4])) (some 18) (.pointer (some ⟨g0, 0, none⟩))) (some 19) (.pointer (some ⟨g1, 0, none⟩))) W) := by
           refine hide ?_
           intro W lo lo2 g0 g1 hrow hHi hrow2 hHi2 bg0 bz0 bl0 bs0 bg1 bz1 bl1 bs1 bn hS hs hC
           rw [hops.out, hQ.out, ha.out]
           try simp only [Act.put, y1, y2, y3, y4, y5, y6]
           have hq : w.heap.size + 3 ≤ W.heap.size := Nat.le_trans hp hs
           refine wpAnyH_ready (rs := [8]) (by kernel_rfl) (by simp) ?_
           refine AllReadyH.cons rfl (fun K hK => ?_) (AllReadyH.nil)
           · go_simp
             refine (implRunRounds_as Ab n0 cb _ _ l0 (by unfold maxLen; omega) x1_0 x1_1 x2_0 x2_1 x2_2 x2_3 x2_4 x3_0 x3_1 x3_2 x3_3 x3_4 Ay n4 cy _ _ l4 hl4 hn4 _ HP hrow hHi hrow2 hHi2).mono ?_
             rintro e V1 ⟨rfl, hb⟩
             replace hrow := hrow.below hb hHi
             replace hHi := Nat.le_trans hHi hb.size
             replace hrow2 := hrow2.below hb hHi2
             replace hHi2 := Nat.le_trans hHi2 hb.size
             replace bg0 := Box.below bg0 hb bl0
             replace bz0 := Fz.below bz0 hb bl0
             replace bl0 := Nat.lt_of_lt_of_le bl0 hb.size
             replace bg1 := Box.below bg1 hb bl1
             replace bz1 := Fz.below bz1 hb bl1
             replace bl1 := Nat.lt_of_lt_of_le bl1 hb.size
             replace hS := hSb _ _ hq hb hS
             replace hC := hC.trans (hb.mono hs)
             replace hs := Nat.le_trans hs hb.size
             clear hb
             refine hK.out _ _ hS (fun hHeld => ?_)
             clear hK K
             try simp only [Act.put, y1, y2, y3, y4, y5, y6]
             refine wpAnyH_take (i := 9) (v := ?_) rfl (by kernel_rfl) (by kernel_rfl) (by kernel_rfl) (fun _ _ _ h => h) (Or.inl ⟨by rfl, ?_⟩) (by assumption) ?_
             rotate_left
             · (intro W9 hSw; clear hSw; go_simp; try (with_reducible rfl))
             try simp only [Act.put, y1, y2, y3, y4, y5, y6]
             refine wpAnyH_take (i := 10) (v := ?_) rfl (by kernel_rfl) (by kernel_rfl) (by kernel_rfl) (fun _ _ _ h => h) (Or.inl ⟨by rfl, ?_⟩) (by assumption) ?_
             rotate_left
             · (intro W9 hSw; clear hSw; go_simp; try (with_reducible rfl))
             try simp only [Act.put, y1, y2, y3, y4, y5, y6]
             refine wpAnyH_take (i := 11) (v := ?_) rfl (by kernel_rfl) (by kernel_rfl) (by kernel_rfl) (fun _ _ _ h => h) (Or.inl ⟨by rfl, ?_⟩) (by assumption) ?_
             rotate_left
             · (intro W9 hSw; clear hSw; go_simp; try (with_reducible rfl))
             try simp only [Act.put, y1, y2, y3, y4, y5, y6]
             refine wpAnyH_take (i := 12) (v := ?_) rfl (by kernel_rfl) (by kernel_rfl) (by kernel_rfl) (fun _ _ _ h => h) (Or.inl ⟨by rfl, ?_⟩) (by assumption) ?_
             rotate_left
             · (intro W9 hSw; clear hSw; go_simp; try (with_reducible rfl))
             try simp only [Act.put, y1, y2, y3, y4, y5, y6]
             refine wpAnyH_take (i := 13) (v := ?_) rfl (by kernel_rfl) (by kernel_rfl) (by kernel_rfl) (fun _ _ _ h => h) (Or.inl ⟨by rfl, ?_⟩) (by assumption) ?_
             rotate_left
             · (intro W9 hSw; clear hSw; go_simp; try (with_reducible rfl))
             try simp only [Act.put, y1, y2, y3, y4, y5, y6]
             clear hHeld
             have h := L4_11.out V1 g0 g1 bg0 bz0 bl0 bs0 bg1 bz1 bl1 bs1 bn hS hs hC
             rw [hops.out, hQ.out, ha.out] at h
             try simp only [Act.put, y1, y2, y3, y4, y5, y6] at h
             exact h
          have L3_01 : Hid (∀ (W : World) (lo lo2 : Nat) (g1 : Nat), (RdSS W lo Hb Ab n0 (rrBool l0)) → (Hb ≤ W.heap.size) → (Rd W lo2 Hy 2 Ay n4 (rRound l4)) → (Hy ≤ W.heap.size) → (Box W g1 [.int .i64 0, .int .i64 0, .int .i64 0, .int .i64 0, .int .i64 0]) → (Fz W g1) → (g1 < W.heap.size) → (w10.heap.size ≤ g1) → (Box W (w.heap.size) [.int .i64 x1_0, .int .i64 x1_1] ∧ Box W (w.heap.size + 1) [.int .i64 x2_0, .int .i64 x2_1, .int .i64 x2_2, .int .i64 x2_3, .int .i64 x2_4] ∧ Box W (w.heap.size + 2) [.int .i64 x3_0, .int .i64 x3_1, .int .i64 x3_2, .int .i64 x3_3, .int .i64 x3_4]) → (w10.heap.size ≤ W.heap.size) → (Below w10.heap.size w10 W) → wpAnyH Try.prog .any ops' Q' (fun W : World => Box W (w.heap.size) [.int .i64 x1_0, .int .i64 x1_1] ∧ Box W (w.heap.size + 1) [.int .i64 x2_0, .int .i64 x2_1, .int .i64 x2_2, .int .i64 x2_3, .int .i64 x2_4] ∧ Box W (w.heap.size + 2) [.int .i64 x3_0, .int .i64 x3_1, .int .i64 x3_2, .int .i64 x3_3, .int .i64 x3_4]) 11 #[true, true, true, true, true, true, true, true, false, false, false, false, false, false, false, true, false, false, false, false] (Act.put (Act.put (Act.put (Act.put a' (some 55) (.agg #[.int .i64 x1_0, .int .i64 x1_1])) (some 57) (.agg #[.int .i64 x2_0, .int .i64 x2_1, .int .i64 x2_2, .int .i64 x2_3, .int .i64 x2_4])) (some 59) (.agg #[.int .i64 x3_0, .int .i64 x3_1, .int .i64 x3_2, .int .i64 x3_3, .int .i64 x3_4])) (some 19) (.pointer (some ⟨g1, 0, none⟩))) W) := by
           refine hide ?_
           intro W lo lo2 g1 hrow hHi hrow2 hHi2 bg1 bz1 bl1 bs1 hS hs hC
           rw [hops.out, hQ.out, ha.out]
           try simp only [Act.put, y1, y2, y3, y4, y5, y6]
           have hq : w.heap.size + 3 ≤ W.heap.size := Nat.le_trans hp hs
           refine wpAnyH_ready (rs := [8, 14]) (by kernel_rfl) (by simp) ?_
           refine AllReadyH.cons rfl (fun K hK => ?_) (AllReadyH.cons rfl (fun K hK => ?_) (AllReadyH.nil))
           · go_simp
             refine (implRunRounds_as Ab n0 cb _ _ l0 (by unfold maxLen; omega) x1_0 x1_1 x2_0 x2_1 x2_2 x2_3 x2_4 x3_0 x3_1 x3_2 x3_3 x3_4 Ay n4 cy _ _ l4 hl4 hn4 _ HP hrow hHi hrow2 hHi2).mono ?_
             rintro e V1 ⟨rfl, hb⟩
             replace hrow := hrow.below hb hHi
             replace hHi := Nat.le_trans hHi hb.size
             replace hrow2 := hrow2.below hb hHi2
             replace hHi2 := Nat.le_trans hHi2 hb.size
             replace bg1 := Box.below bg1 hb bl1
             replace bz1 := Fz.below bz1 hb bl1
             replace bl1 := Nat.lt_of_lt_of_le bl1 hb.size
             replace hS := hSb _ _ hq hb hS
             replace hC := hC.trans (hb.mono hs)
             replace hs := Nat.le_trans hs hb.size
             clear hb
             refine hK.out _ _ hS (fun hHeld => ?_)
             clear hK K
             try simp only [Act.put, y1, y2, y3, y4, y5, y6]
             refine wpAnyH_take (i := 9) (v := ?_) rfl (by kernel_rfl) (by kernel_rfl) (by kernel_rfl) (fun _ _ _ h => h) (Or.inl ⟨by rfl, ?_⟩) (by assumption) ?_
             rotate_left
             · (intro W9 hSw; clear hSw; go_simp; try (with_reducible rfl))
             try simp only [Act.put, y1, y2, y3, y4, y5, y6]
             refine wpAnyH_take (i := 10) (v := ?_) rfl (by kernel_rfl) (by kernel_rfl) (by kernel_rfl) (fun _ _ _ h => h) (Or.inl ⟨by rfl, ?_⟩) (by assumption) ?_
             rotate_left
             · (intro W9 hSw; clear hSw; go_simp; try (with_reducible rfl))
             try simp only [Act.put, y1, y2, y3, y4, y5, y6]
             refine wpAnyH_take (i := 11) (v := ?_) rfl (by kernel_rfl) (by kernel_rfl) (by kernel_rfl) (fun _ _ _ h => h) (Or.inl ⟨by rfl, ?_⟩) (by assumption) ?_
             rotate_left
             · (intro W9 hSw; clear hSw; go_simp; try (with_reducible rfl))
             try simp only [Act.put, y1, y2, y3, y4, y5, y6]
             refine wpAnyH_take (i := 12) (v := ?_) rfl (by kernel_rfl) (by kernel_rfl) (by kernel_rfl) (fun _ _ _ h => h) (Or.inl ⟨by rfl, ?_⟩) (by assumption) ?_
             rotate_left
             · (intro W9 hSw; clear hSw; go_simp; try (with_reducible rfl))
             try simp only [Act.put, y1, y2, y3, y4, y5, y6]
             refine wpAnyH_take (i := 13) (v := ?_) rfl (by kernel_rfl) (by kernel_rfl) (by kernel_rfl) (fun _ _ _ h => h) (Or.inl ⟨by rfl, ?_⟩) (by assumption) ?_
             rotate_left
             · (intro W9 hSw; clear hSw; go_simp; try (with_reducible rfl))
             try simp only [Act.put, y1, y2, y3, y4, y5, y6]
             clear hHeld
             have h := L4_01.out V1 g1 bg1 bz1 bl1 bs1 hS hs hC
             rw [hops.out, hQ.out, ha.out] at h
             try simp only [Act.put, y1, y2, y3, y4, y5, y6] at h
             exact h
           · go_simp
             obtain ⟨V1, hN⟩ : ∃ V : World, V = World.alloc W (.cells #[.int .i64 0, .int .i64 0, .int .i64 0, .int .i64 0, .int .i64 0] 50) := ⟨_, rfl⟩
             rw [← hN]
             have hb : Below W.heap.size W V1 := by rw [hN]; exact (Below.refl _ _).alloc (Nat.le_refl _) _
             have bg0 : Box V1 W.heap.size [.int .i64 0, .int .i64 0, .int .i64 0, .int .i64 0, .int .i64 0] := by rw [hN]; exact box_new W #[.int .i64 0, .int .i64 0, .int .i64 0, .int .i64 0, .int .i64 0] 50
             have bz0 : Fz V1 W.heap.size := by rw [hN]; exact fz_at W #[.int .i64 0, .int .i64 0, .int .i64 0, .int .i64 0, .int .i64 0] 50 _ rfl
             have bl0 : W.heap.size < V1.heap.size := by rw [hN]; simp
             have bs0 : w10.heap.size ≤ W.heap.size := hs
             have bn : W.heap.size ≠ g1 := by omega
             clear hN
             replace hrow := hrow.below hb hHi
             replace hHi := Nat.le_trans hHi hb.size
             replace hrow2 := hrow2.below hb hHi2
             replace hHi2 := Nat.le_trans hHi2 hb.size
             replace bg1 := Box.below bg1 hb bl1
             replace bz1 := Fz.below bz1 hb bl1
             replace bl1 := Nat.lt_of_lt_of_le bl1 hb.size
             replace hS := hSb _ _ hq hb hS
             replace hC := hC.trans (hb.mono hs)
             replace hs := Nat.le_trans hs hb.size
             clear hb
             refine hK.out _ _ hS (fun hHeld => ?_)
             clear hK K
             try simp only [Act.put, y1, y2, y3, y4, y5, y6]
             clear hHeld
             have h := L3_11.out V1 _ _ W.heap.size g1 hrow hHi hrow2 hHi2 bg0 bz0 bl0 bs0 bg1 bz1 bl1 bs1 bn hS hs hC
             rw [hops.out, hQ.out, ha.out] at h
             try simp only [Act.put, y1, y2, y3, y4, y5, y6] at h
             exact h
          have L3_10 : Hid (∀ (W : World) (lo lo2 : Nat) (g0 : Nat), (RdSS W lo Hb Ab n0 (rrBool l0)) → (Hb ≤ W.heap.size) → (Rd W lo2 Hy 2 Ay n4 (rRound l4)) → (Hy ≤ W.heap.size) → (Box W g0 [.int .i64 0, .int .i64 0, .int .i64 0, .int .i64 0, .int .i64 0]) → (Fz W g0) → (g0 < W.heap.size) → (w10.heap.size ≤ g0) → (Box W (w.heap.size) [.int .i64 x1_0, .int .i64 x1_1] ∧ Box W (w.heap.size + 1) [.int .i64 x2_0, .int .i64 x2_1, .int .i64 x2_2, .int .i64 x2_3, .int .i64 x2_4] ∧ Box W (w.heap.size + 2) [.int .i64 x3_0, .int .i64 x3_1, .int .i64 x3_2, .int .i64 x3_3, .int .i64 x3_4]) → (w10.heap.size ≤ W.heap.size) → (Below w10.heap.size w10 W) → wpAnyH Try.prog .any ops' Q' (fun W : World => Box W (w.heap.size) [.int .i64 x1_0, .int .i64 x1_1] ∧ Box W (w.heap.size + 1) [.int .i64 x2_0, .int .i64 x2_1, .int .i64 x2_2, .int .i64 x2_3, .int .i64 x2_4] ∧ Box W (w.heap.size + 2) [.int .i64 x3_0, .int .i64 x3_1, .int .i64 x3_2, .int .i64 x3_3, .int .i64 x3_4]) 11 #[true, true, true, true, true, true, true, true, false, false, false, false, false, false, true, false, false, false, false, false] (Act.put (Act.put (Act.put (Act.put a' (some 55) (.agg #[.int .i64 x1_0, .int .i64 x1_1])) (some 57) (.agg #[.int .i64 x2_0, .int .i64 x2_1, .int .i64 x2_2, .int .i64 x2_3, .int .i64 x2_4])) (some 59) (.agg #[.int .i64 x3_0, .int .i64 x3_1, .int .i64 x3_2, .int .i64 x3_3, .int .i64 x3_4])) (some 18) (.pointer (some ⟨g0, 0, none⟩))) W) := by
           refine hide ?_
           intro W lo lo2 g0 hrow hHi hrow2 hHi2 bg0 bz0 bl0 bs0 hS hs hC
           rw [hops.out, hQ.out, ha.out]
           try simp only [Act.put, y1, y2, y3, y4, y5, y6]
           have hq : w.heap.size + 3 ≤ W.heap.size := Nat.le_trans hp hs
           refine wpAnyH_ready (rs := [8, 15]) (by kernel_rfl) (by simp) ?_
           refine AllReadyH.cons rfl (fun K hK => ?_) (AllReadyH.cons rfl (fun K hK => ?_) (AllReadyH.nil))
           · go_simp
             refine (implRunRounds_as Ab n0 cb _ _ l0 (by unfold maxLen; omega) x1_0 x1_1 x2_0 x2_1 x2_2 x2_3 x2_4 x3_0 x3_1 x3_2 x3_3 x3_4 Ay n4 cy _ _ l4 hl4 hn4 _ HP hrow hHi hrow2 hHi2).mono ?_
             rintro e V1 ⟨rfl, hb⟩
             replace hrow := hrow.below hb hHi
             replace hHi := Nat.le_trans hHi hb.size
             replace hrow2 := hrow2.below hb hHi2
             replace hHi2 := Nat.le_trans hHi2 hb.size
             replace bg0 := Box.below bg0 hb bl0
             replace bz0 := Fz.below bz0 hb bl0
             replace bl0 := Nat.lt_of_lt_of_le bl0 hb.size
             replace hS := hSb _ _ hq hb hS
             replace hC := hC.trans (hb.mono hs)
             replace hs := Nat.le_trans hs hb.size
             clear hb
             refine hK.out _ _ hS (fun hHeld => ?_)
             clear hK K
             try simp only [Act.put, y1, y2, y3, y4, y5, y6]
             refine wpAnyH_take (i := 9) (v := ?_) rfl (by kernel_rfl) (by kernel_rfl) (by kernel_rfl) (fun _ _ _ h => h) (Or.inl ⟨by rfl, ?_⟩) (by assumption) ?_
             rotate_left
             · (intro W9 hSw; clear hSw; go_simp; try (with_reducible rfl))
             try simp only [Act.put, y1, y2, y3, y4, y5, y6]
             refine wpAnyH_take (i := 10) (v := ?_) rfl (by kernel_rfl) (by kernel_rfl) (by kernel_rfl) (fun _ _ _ h => h) (Or.inl ⟨by rfl, ?_⟩) (by assumption) ?_
             rotate_left
             · (intro W9 hSw; clear hSw; go_simp; try (with_reducible rfl))
             try simp only [Act.put, y1, y2, y3, y4, y5, y6]
             refine wpAnyH_take (i := 11) (v := ?_) rfl (by kernel_rfl) (by kernel_rfl) (by kernel_rfl) (fun _ _ _ h => h) (Or.inl ⟨by rfl, ?_⟩) (by assumption) ?_
             rotate_left
             · (intro W9 hSw; clear hSw; go_simp; try (with_reducible rfl))
             try simp only [Act.put, y1, y2, y3, y4, y5, y6]
             refine wpAnyH_take (i := 12) (v := ?_) rfl (by kernel_rfl) (by kernel_rfl) (by kernel_rfl) (fun _ _ _ h => h) (Or.inl ⟨by rfl, ?_⟩) (by assumption) ?_
             rotate_left
             · (intro W9 hSw; clear hSw; go_simp; try (with_reducible rfl))
             try simp only [Act.put, y1, y2, y3, y4, y5, y6]
             refine wpAnyH_take (i := 13) (v := ?_) rfl (by kernel_rfl) (by kernel_rfl) (by kernel_rfl) (fun _ _ _ h => h) (Or.inl ⟨by rfl, ?_⟩) (by assumption) ?_
             rotate_left
             · (intro W9 hSw; clear hSw; go_simp; try (with_reducible rfl))
             try simp only [Act.put, y1, y2, y3, y4, y5, y6]
             clear hHeld
             have h := L4_10.out V1 g0 bg0 bz0 bl0 bs0 hS hs hC
             rw [hops.out, hQ.out, ha.out] at h
             try simp only [Act.put, y1, y2, y3, y4, y5, y6] at h
             exact h
           · go_simp
             obtain ⟨V1, hN⟩ : ∃ V : World, V = World.alloc W (.cells #[.int .i64 0, .int .i64 0, .int .i64 0, .int .i64 0, .int .i64 0] 50) := ⟨_, rfl⟩
             rw [← hN]
             have hb : Below W.heap.size W V1 := by rw [hN]; exact (Below.refl _ _).alloc (Nat.le_refl _) _
             have bg1 : Box V1 W.heap.size [.int .i64 0, .int .i64 0, .int .i64 0, .int .i64 0, .int .i64 0] := by rw [hN]; exact box_new W #[.int .i64 0, .int .i64 0, .int .i64 0, .int .i64 0, .int .i64 0] 50
             have bz1 : Fz V1 W.heap.size := by rw [hN]; exact fz_at W #[.int .i64 0, .int .i64 0, .int .i64 0, .int .i64 0, .int .i64 0] 50 _ rfl
             have bl1 : W.heap.size < V1.heap.size := by rw [hN]; simp
             have bs1 : w10.heap.size ≤ W.heap.size := hs
             have bn : g0 ≠ W.heap.size := by omega
             clear hN
             replace hrow := hrow.below hb hHi
             replace hHi := Nat.le_trans hHi hb.size
             replace hrow2 := hrow2.below hb hHi2
             replace hHi2 := Nat.le_trans hHi2 hb.size
             replace bg0 := Box.below bg0 hb bl0
             replace bz0 := Fz.below bz0 hb bl0
             replace bl0 := Nat.lt_of_lt_of_le bl0 hb.size
             replace hS := hSb _ _ hq hb hS
             replace hC := hC.trans (hb.mono hs)
             replace hs := Nat.le_trans hs hb.size
             clear hb
             refine hK.out _ _ hS (fun hHeld => ?_)
             clear hK K
             try simp only [Act.put, y1, y2, y3, y4, y5, y6]
             clear hHeld
             have h := L3_11.out V1 _ _ g0 W.heap.size hrow hHi hrow2 hHi2 bg0 bz0 bl0 bs0 bg1 bz1 bl1 bs1 bn hS hs hC
             rw [hops.out, hQ.out, ha.out] at h
             try simp only [Act.put, y1, y2, y3, y4, y5, y6] at h
             exact h
          have L3_00 : Hid (∀ (W : World) (lo lo2 : Nat), (RdSS W lo Hb Ab n0 (rrBool l0)) → (Hb ≤ W.heap.size) → (Rd W lo2 Hy 2 Ay n4 (rRound l4)) → (Hy ≤ W.heap.size) → (Box W (w.heap.size) [.int .i64 x1_0, .int .i64 x1_1] ∧ Box W (w.heap.size + 1) [.int .i64 x2_0, .int .i64 x2_1, .int .i64 x2_2, .int .i64 x2_3, .int .i64 x2_4] ∧ Box W (w.heap.size + 2) [.int .i64 x3_0, .int .i64 x3_1, .int .i64 x3_2, .int .i64 x3_3, .int .i64 x3_4]) → (w10.heap.size ≤ W.heap.size) → (Below w10.heap.size w10 W) → wpAnyH Try.prog .any ops' Q' (fun W : World => Box W (w.heap.size) [.int .i64 x1_0, .int .i64 x1_1] ∧ Box W (w.heap.size + 1) [.int .i64 x2_0, .int .i64 x2_1, .int .i64 x2_2, .int .i64 x2_3, .int .i64 x2_4] ∧ Box W (w.heap.size + 2) [.int .i64 x3_0, .int .i64 x3_1, .int .i64 x3_2, .int .i64 x3_3, .int .i64 x3_4]) 12 #[true, true, true, true, true, true, true, true, false, false, false, false, false, false, false, false, false, false, false, false] (Act.put (Act.put (Act.put a' (some 55) (.agg #[.int .i64 x1_0, .int .i64 x1_1])) (some 57) (.agg #[.int .i64 x2_0, .int .i64 x2_1, .int .i64 x2_2, .int .i64 x2_3, .int .i64 x2_4])) (some 59) (.agg #[.int .i64 x3_0, .int .i64 x3_1, .int .i64 x3_2, .int .i64 x3_3, .int .i64 x3_4])) W) := by
           refine hide ?_
           intro W lo lo2 hrow hHi hrow2 hHi2 hS hs hC
           rw [hops.out, hQ.out, ha.out]
           try simp only [Act.put, y1, y2, y3, y4, y5, y6]
           have hq : w.heap.size + 3 ≤ W.heap.size := Nat.le_trans hp hs
           refine wpAnyH_ready (rs := [8, 14, 15]) (by kernel_rfl) (by simp) ?_
           refine AllReadyH.cons rfl (fun K hK => ?_) (AllReadyH.cons rfl (fun K hK => ?_) (AllReadyH.cons rfl (fun K hK => ?_) (AllReadyH.nil)))
           · go_simp
             refine (implRunRounds_as Ab n0 cb _ _ l0 (by unfold maxLen; omega) x1_0 x1_1 x2_0 x2_1 x2_2 x2_3 x2_4 x3_0 x3_1 x3_2 x3_3 x3_4 Ay n4 cy _ _ l4 hl4 hn4 _ HP hrow hHi hrow2 hHi2).mono ?_
             rintro e V1 ⟨rfl, hb⟩
             replace hrow := hrow.below hb hHi
             replace hHi := Nat.le_trans hHi hb.size
             replace hrow2 := hrow2.below hb hHi2
             replace hHi2 := Nat.le_trans hHi2 hb.size
             replace hS := hSb _ _ hq hb hS
             replace hC := hC.trans (hb.mono hs)
             replace hs := Nat.le_trans hs hb.size
             clear hb
             refine hK.out _ _ hS (fun hHeld => ?_)
             clear hK K
             try simp only [Act.put, y1, y2, y3, y4, y5, y6]
             refine wpAnyH_take (i := 9) (v := ?_) rfl (by kernel_rfl) (by kernel_rfl) (by kernel_rfl) (fun _ _ _ h => h) (Or.inl ⟨by rfl, ?_⟩) (by assumption) ?_
             rotate_left
             · (intro W9 hSw; clear hSw; go_simp; try (with_reducible rfl))
             try simp only [Act.put, y1, y2, y3, y4, y5, y6]
             refine wpAnyH_take (i := 10) (v := ?_) rfl (by kernel_rfl) (by kernel_rfl) (by kernel_rfl) (fun _ _ _ h => h) (Or.inl ⟨by rfl, ?_⟩) (by assumption) ?_
             rotate_left
             · (intro W9 hSw; clear hSw; go_simp; try (with_reducible rfl))
             try simp only [Act.put, y1, y2, y3, y4, y5, y6]
             refine wpAnyH_take (i := 11) (v := ?_) rfl (by kernel_rfl) (by kernel_rfl) (by kernel_rfl) (fun _ _ _ h => h) (Or.inl ⟨by rfl, ?_⟩) (by assumption) ?_
             rotate_left
             · (intro W9 hSw; clear hSw; go_simp; try (with_reducible rfl))
             try simp only [Act.put, y1, y2, y3, y4, y5, y6]
             refine wpAnyH_take (i := 12) (v := ?_) rfl (by kernel_rfl) (by kernel_rfl) (by kernel_rfl) (fun _ _ _ h => h) (Or.inl ⟨by rfl, ?_⟩) (by assumption) ?_
             rotate_left
             · (intro W9 hSw; clear hSw; go_simp; try (with_reducible rfl))
             try simp only [Act.put, y1, y2, y3, y4, y5, y6]
             refine wpAnyH_take (i := 13) (v := ?_) rfl (by kernel_rfl) (by kernel_rfl) (by kernel_rfl) (fun _ _ _ h => h) (Or.inl ⟨by rfl, ?_⟩) (by assumption) ?_
             rotate_left
             · (intro W9 hSw; clear hSw; go_simp; try (with_reducible rfl))
             try simp only [Act.put, y1, y2, y3, y4, y5, y6]
             clear hHeld
             have h := L4_00.out V1  hS hs hC
             rw [hops.out, hQ.out, ha.out] at h
             try simp only [Act.put, y1, y2, y3, y4, y5, y6] at h
             exact h
           · go_simp
             obtain ⟨V1, hN⟩ : ∃ V : World, V = World.alloc W (.cells #[.int .i64 0, .int .i64 0, .int .i64 0, .int .i64 0, .int .i64 0] 50) := ⟨_, rfl⟩
             rw [← hN]
             have hb : Below W.heap.size W V1 := by rw [hN]; exact (Below.refl _ _).alloc (Nat.le_refl _) _
             have bg0 : Box V1 W.heap.size [.int .i64 0, .int .i64 0, .int .i64 0, .int .i64 0, .int .i64 0] := by rw [hN]; exact box_new W #[.int .i64 0, .int .i64 0, .int .i64 0, .int .i64 0, .int .i64 0] 50
             have bz0 : Fz V1 W.heap.size := by rw [hN]; exact fz_at W #[.int .i64 0, .int .i64 0, .int .i64 0, .int .i64 0, .int .i64 0] 50 _ rfl
             have bl0 : W.heap.size < V1.heap.size := by rw [hN]; simp
             have bs0 : w10.heap.size ≤ W.heap.size := hs
             clear hN
             replace hrow := hrow.below hb hHi
             replace hHi := Nat.le_trans hHi hb.size
             replace hrow2 := hrow2.below hb hHi2
             replace hHi2 := Nat.le_trans hHi2 hb.size
             replace hS := hSb _ _ hq hb hS
             replace hC := hC.trans (hb.mono hs)
             replace hs := Nat.le_trans hs hb.size
             clear hb
             refine hK.out _ _ hS (fun hHeld => ?_)
             clear hK K
             try simp only [Act.put, y1, y2, y3, y4, y5, y6]
             clear hHeld
             have h := L3_10.out V1 _ _ W.heap.size hrow hHi hrow2 hHi2 bg0 bz0 bl0 bs0 hS hs hC
             rw [hops.out, hQ.out, ha.out] at h
             try simp only [Act.put, y1, y2, y3, y4, y5, y6] at h
             exact h
           · go_simp
             obtain ⟨V1, hN⟩ : ∃ V : World, V = World.alloc W (.cells #[.int .i64 0, .int .i64 0, .int .i64 0, .int .i64 0, .int .i64 0] 50) := ⟨_, rfl⟩
             rw [← hN]
             have hb : Below W.heap.size W V1 := by rw [hN]; exact (Below.refl _ _).alloc (Nat.le_refl _) _
             have bg1 : Box V1 W.heap.size [.int .i64 0, .int .i64 0, .int .i64 0, .int .i64 0, .int .i64 0] := by rw [hN]; exact box_new W #[.int .i64 0, .int .i64 0, .int .i64 0, .int .i64 0, .int .i64 0] 50
             have bz1 : Fz V1 W.heap.size := by rw [hN]; exact fz_at W #[.int .i64 0, .int .i64 0, .int .i64 0, .int .i64 0, .int .i64 0] 50 _ rfl
             have bl1 : W.heap.size < V1.heap.size := by rw [hN]; simp
             have bs1 : w10.heap.size ≤ W.heap.size := hs
             clear hN
             replace hrow := hrow.below hb hHi
             replace hHi := Nat.le_trans hHi hb.size
             replace hrow2 := hrow2.below hb hHi2
             replace hHi2 := Nat.le_trans hHi2 hb.size
             replace hS := hSb _ _ hq hb hS
             replace hC := hC.trans (hb.mono hs)
             replace hs := Nat.le_trans hs hb.size
             clear hb
             refine hK.out _ _ hS (fun hHeld => ?_)
             clear hK K
             try simp only [Act.put, y1, y2, y3, y4, y5, y6]
             clear hHeld
             have h := L3_01.out V1 _ _ W.heap.size hrow hHi hrow2 hHi2 bg1 bz1 bl1 bs1 hS hs hC
             rw [hops.out, hQ.out, ha.out] at h
             try simp only [Act.put, y1, y2, y3, y4, y5, y6] at h
             exact h
          have L2_11 : Hid (∀ (W : World) (lo lo2 : Nat) (g0 : Nat) (g1 : Nat), (RdSS W lo Hb Ab n0 (rrBool l0)) → (Hb ≤ W.heap.size) → (Rd W lo2 Hy 2 Ay n4 (rRound l4)) → (Hy ≤ W.heap.size) → (Box W g0 [.int .i64 0, .int .i64 0, .int .i64 0, .int .i64 0, .int .i64 0]) → (Fz W g0) → (g0 < W.heap.size) → (w10.heap.size ≤ g0) → (Box W g1 [.int .i64 0, .int .i64 0, .int .i64 0, .int .i64 0, .int .i64 0]) → (Fz W g1) → (g1 < W.heap.size) → (w10.heap.size ≤ g1) → (g0 ≠ g1) → (Box W (w.heap.size) [.int .i64 x1_0, .int .i64 x1_1] ∧ Box W (w.heap.size + 1) [.int .i64 x2_0, .int .i64 x2_1, .int .i64 x2_2, .int .i64 x2_3, .int .i64 x2_4] ∧ Box W (w.heap.size + 2) [.int .i64 x3_0, .int .i64 x3_1, .int .i64 x3_2, .int .i64 x3_3, .int .i64 x3_4]) → (w10.heap.size ≤ W.heap.size) → (Below w10.heap.size w10 W) → wpAnyH Try.prog .any ops' Q' (fun W : World => Box W (w.heap.size) [.int .i64 x1_0, .int .i64 x1_1] ∧ Box W (w.heap.size + 1) [.int .i64 x2_0, .int .i64 x2_1, .int .i64 x2_2, .int .i64 x2_3, .int .i64 x2_4] ∧ Box W (w.heap.size + 2) [.int .i64 x3_0, .int .i64 x3_1, .int .i64 x3_2, .int .i64 x3_3, .int .i64 x3_4]) 11 #[true, true, true, true, true, true, false, true, false, false, false, false, false, false, true, true, false, false, false, false] (Act.put (Act.put (Act.put (Act.put a' (some 55) (.agg #[.int .i64 x1_0, .int .i64 x1_1])) (some 57) (.agg #[.int .i64 x2_0, .int .i64 x2_1, .int .i64 x2_2, .int .i64 x2_3, .int .i64 x2_4])) (some 18) (.pointer (some ⟨g0, 0, none⟩))) (some 19) (.pointer (some ⟨g1, 0, none⟩))) W) := by
           refine hide ?_
           intro W lo lo2 g0 g1 hrow hHi hrow2 hHi2 bg0 bz0 bl0 bs0 bg1 bz1 bl1 bs1 bn hS hs hC
           rw [hops.out, hQ.out, ha.out]
           try simp only [Act.put, y1, y2, y3, y4, y5, y6]
           have hq : w.heap.size + 3 ≤ W.heap.size := Nat.le_trans hp hs
           refine wpAnyH_ready (rs := [6]) (by kernel_rfl) (by simp) ?_
           refine AllReadyH.cons rfl (fun K hK => ?_) (AllReadyH.nil)
           · go_simp
             refine (toControl_any x3_0 x3_1 x3_2 x3_3 x3_4 _).mono ?_
             rintro e V1 ⟨rfl, hb⟩
             replace hrow := hrow.below hb hHi
             replace hHi := Nat.le_trans hHi hb.size
             replace hrow2 := hrow2.below hb hHi2
             replace hHi2 := Nat.le_trans hHi2 hb.size
             replace bg0 := Box.below bg0 hb bl0
             replace bz0 := Fz.below bz0 hb bl0
             replace bl0 := Nat.lt_of_lt_of_le bl0 hb.size
             replace bg1 := Box.below bg1 hb bl1
             replace bz1 := Fz.below bz1 hb bl1
             replace bl1 := Nat.lt_of_lt_of_le bl1 hb.size
             replace hS := hSb _ _ hq hb hS
             replace hC := hC.trans (hb.mono hs)
             replace hs := Nat.le_trans hs hb.size
             clear hb
             refine hK.out _ _ hS (fun hHeld => ?_)
             clear hK K
             try simp only [Act.put, y1, y2, y3, y4, y5, y6]
             clear hHeld
             have h := L3_11.out V1 _ _ g0 g1 hrow hHi hrow2 hHi2 bg0 bz0 bl0 bs0 bg1 bz1 bl1 bs1 bn hS hs hC
             rw [hops.out, hQ.out, ha.out] at h
             try simp only [Act.put, y1, y2, y3, y4, y5, y6] at h
             exact h
          have L2_01 : Hid (∀ (W : World) (lo lo2 : Nat) (g1 : Nat), (RdSS W lo Hb Ab n0 (rrBool l0)) → (Hb ≤ W.heap.size) → (Rd W lo2 Hy 2 Ay n4 (rRound l4)) → (Hy ≤ W.heap.size) → (Box W g1 [.int .i64 0, .int .i64 0, .int .i64 0, .int .i64 0, .int .i64 0]) → (Fz W g1) → (g1 < W.heap.size) → (w10.heap.size ≤ g1) → (Box W (w.heap.size) [.int .i64 x1_0, .int .i64 x1_1] ∧ Box W (w.heap.size + 1) [.int .i64 x2_0, .int .i64 x2_1, .int .i64 x2_2, .int .i64 x2_3, .int .i64 x2_4] ∧ Box W (w.heap.size + 2) [.int .i64 x3_0, .int .i64 x3_1, .int .i64 x3_2, .int .i64 x3_3, .int .i64 x3_4]) → (w10.heap.size ≤ W.heap.size) → (Below w10.heap.size w10 W) → wpAnyH Try.prog .any ops' Q' (fun W : World => Box W (w.heap.size) [.int .i64 x1_0, .int .i64 x1_1] ∧ Box W (w.heap.size + 1) [.int .i64 x2_0, .int .i64 x2_1, .int .i64 x2_2, .int .i64 x2_3, .int .i64 x2_4] ∧ Box W (w.heap.size + 2) [.int .i64 x3_0, .int .i64 x3_1, .int .i64 x3_2, .int .i64 x3_3, .int .i64 x3_4]) 12 #[true, true, true, true, true, true, false, true, false, false, false, false, false, false, false, true, false, false, false, false] (Act.put (Act.put (Act.put a' (some 55) (.agg #[.int .i64 x1_0, .int .i64 x1_1])) (some 57) (.agg #[.int .i64 x2_0, .int .i64 x2_1, .int .i64 x2_2, .int .i64 x2_3, .int .i64 x2_4])) (some 19) (.pointer (some ⟨g1, 0, none⟩))) W) := by
           refine hide ?_
           intro W lo lo2 g1 hrow hHi hrow2 hHi2 bg1 bz1 bl1 bs1 hS hs hC
           rw [hops.out, hQ.out, ha.out]
           try simp only [Act.put, y1, y2, y3, y4, y5, y6]
           have hq : w.heap.size + 3 ≤ W.heap.size := Nat.le_trans hp hs
           refine wpAnyH_ready (rs := [6, 14]) (by kernel_rfl) (by simp) ?_
           refine AllReadyH.cons rfl (fun K hK => ?_) (AllReadyH.cons rfl (fun K hK => ?_) (AllReadyH.nil))
           · go_simp
             refine (toControl_any x3_0 x3_1 x3_2 x3_3 x3_4 _).mono ?_
             rintro e V1 ⟨rfl, hb⟩
             replace hrow := hrow.below hb hHi
             replace hHi := Nat.le_trans hHi hb.size
             replace hrow2 := hrow2.below hb hHi2
             replace hHi2 := Nat.le_trans hHi2 hb.size
             replace bg1 := Box.below bg1 hb bl1
             replace bz1 := Fz.below bz1 hb bl1
             replace bl1 := Nat.lt_of_lt_of_le bl1 hb.size
             replace hS := hSb _ _ hq hb hS
             replace hC := hC.trans (hb.mono hs)
             replace hs := Nat.le_trans hs hb.size
             clear hb
             refine hK.out _ _ hS (fun hHeld => ?_)
             clear hK K
             try simp only [Act.put, y1, y2, y3, y4, y5, y6]
             clear hHeld
             have h := L3_01.out V1 _ _ g1 hrow hHi hrow2 hHi2 bg1 bz1 bl1 bs1 hS hs hC
             rw [hops.out, hQ.out, ha.out] at h
             try simp only [Act.put, y1, y2, y3, y4, y5, y6] at h
             exact h
           · go_simp
             obtain ⟨V1, hN⟩ : ∃ V : World, V = World.alloc W (.cells #[.int .i64 0, .int .i64 0, .int .i64 0, .int .i64 0, .int .i64 0] 50) := ⟨_, rfl⟩
             rw [← hN]
             have hb : Below W.heap.size W V1 := by rw [hN]; exact (Below.refl _ _).alloc (Nat.le_refl _) _
             have bg0 : Box V1 W.heap.size [.int .i64 0, .int .i64 0, .int .i64 0, .int .i64 0, .int .i64 0] := by rw [hN]; exact box_new W #[.int .i64 0, .int .i64 0, .int .i64 0, .int .i64 0, .int .i64 0] 50
             have bz0 : Fz V1 W.heap.size := by rw [hN]; exact fz_at W #[.int .i64 0, .int .i64 0, .int .i64 0, .int .i64 0, .int .i64 0] 50 _ rfl
             have bl0 : W.heap.size < V1.heap.size := by rw [hN]; simp
             have bs0 : w10.heap.size ≤ W.heap.size := hs
             have bn : W.heap.size ≠ g1 := by omega
             clear hN
             replace hrow := hrow.below hb hHi
             replace hHi := Nat.le_trans hHi hb.size
             replace hrow2 := hrow2.below hb hHi2
             replace hHi2 := Nat.le_trans hHi2 hb.size
             replace bg1 := Box.below bg1 hb bl1
             replace bz1 := Fz.below bz1 hb bl1
             replace bl1 := Nat.lt_of_lt_of_le bl1 hb.size
             replace hS := hSb _ _ hq hb hS
             replace hC := hC.trans (hb.mono hs)
             replace hs := Nat.le_trans hs hb.size
             clear hb
             refine hK.out _ _ hS (fun hHeld => ?_)
             clear hK K
             try simp only [Act.put, y1, y2, y3, y4, y5, y6]
             clear hHeld
             have h := L2_11.out V1 _ _ W.heap.size g1 hrow hHi hrow2 hHi2 bg0 bz0 bl0 bs0 bg1 bz1 bl1 bs1 bn hS hs hC
             rw [hops.out, hQ.out, ha.out] at h
             try simp only [Act.put, y1, y2, y3, y4, y5, y6] at h
             exact h
          have L2_10 : Hid (∀ (W : World) (lo lo2 : Nat) (g0 : Nat), (RdSS W lo Hb Ab n0 (rrBool l0)) → (Hb ≤ W.heap.size) → (Rd W lo2 Hy 2 Ay n4 (rRound l4)) → (Hy ≤ W.heap.size) → (Box W g0 [.int .i64 0, .int .i64 0, .int .i64 0, .int .i64 0, .int .i64 0]) → (Fz W g0) → (g0 < W.heap.size) → (w10.heap.size ≤ g0) → (Box W (w.heap.size) [.int .i64 x1_0, .int .i64 x1_1] ∧ Box W (w.heap.size + 1) [.int .i64 x2_0, .int .i64 x2_1, .int .i64 x2_2, .int .i64 x2_3, .int .i64 x2_4] ∧ Box W (w.heap.size + 2) [.int .i64 x3_0, .int .i64 x3_1, .int .i64 x3_2, .int .i64 x3_3, .int .i64 x3_4]) → (w10.heap.size ≤ W.heap.size) → (Below w10.heap.size w10 W) → wpAnyH Try.prog .any ops' Q' (fun W : World => Box W (w.heap.size) [.int .i64 x1_0, .int .i64 x1_1] ∧ Box W (w.heap.size + 1) [.int .i64 x2_0, .int .i64 x2_1, .int .i64 x2_2, .int .i64 x2_3, .int .i64 x2_4] ∧ Box W (w.heap.size + 2) [.int .i64 x3_0, .int .i64 x3_1, .int .i64 x3_2, .int .i64 x3_3, .int .i64 x3_4]) 12 #[true, true, true, true, true, true, false, true, false, false, false, false, false, false, true, false, false, false, false, false] (Act.put (Act.put (Act.put a' (some 55) (.agg #[.int .i64 x1_0, .int .i64 x1_1])) (some 57) (.agg #[.int .i64 x2_0, .int .i64 x2_1, .int .i64 x2_2, .int .i64 x2_3, .int .i64 x2_4])) (some 18) (.pointer (some ⟨g0, 0, none⟩))) W) := by
           refine hide ?_
           intro W lo lo2 g0 hrow hHi hrow2 hHi2 bg0 bz0 bl0 bs0 hS hs hC
           rw [hops.out, hQ.out, ha.out]
           try simp only [Act.put, y1, y2, y3, y4, y5, y6]
           have hq : w.heap.size + 3 ≤ W.heap.size := Nat.le_trans hp hs
           refine wpAnyH_ready (rs := [6, 15]) (by kernel_rfl) (by simp) ?_
           refine AllReadyH.cons rfl (fun K hK => ?_) (AllReadyH.cons rfl (fun K hK => ?_) (AllReadyH.nil))
           · go_simp
             refine (toControl_any x3_0 x3_1 x3_2 x3_3 x3_4 _).mono ?_
             rintro e V1 ⟨rfl, hb⟩
             replace hrow := hrow.below hb hHi
             replace hHi := Nat.le_trans hHi hb.size
             replace hrow2 := hrow2.below hb hHi2
             replace hHi2 := Nat.le_trans hHi2 hb.size
             replace bg0 := Box.below bg0 hb bl0
             replace bz0 := Fz.below bz0 hb bl0
             replace bl0 := Nat.lt_of_lt_of_le bl0 hb.size
             replace hS := hSb _ _ hq hb hS
             replace hC := hC.trans (hb.mono hs)
             replace hs := Nat.le_trans hs hb.size
             clear hb
             refine hK.out _ _ hS (fun hHeld => ?_)
             clear hK K
             try simp only [Act.put, y1, y2, y3, y4, y5, y6]
             clear hHeld
             have h := L3_10.out V1 _ _ g0 hrow hHi hrow2 hHi2 bg0 bz0 bl0 bs0 hS hs hC
             rw [hops.out, hQ.out, ha.out] at h
             try simp only [Act.put, y1, y2, y3, y4, y5, y6] at h
             exact h
           · go_simp
             obtain ⟨V1, hN⟩ : ∃ V : World, V = World.alloc W (.cells #[.int .i64 0, .int .i64 0, .int .i64 0, .int .i64 0, .int .i64 0] 50) := ⟨_, rfl⟩
             rw [← hN]
             have hb : Below W.heap.size W V1 := by rw [hN]; exact (Below.refl _ _).alloc (Nat.le_refl _) _
             have bg1 : Box V1 W.heap.size [.int .i64 0, .int .i64 0, .int .i64 0, .int .i64 0, .int .i64 0] := by rw [hN]; exact box_new W #[.int .i64 0, .int .i64 0, .int .i64 0, .int .i64 0, .int .i64 0] 50
             have bz1 : Fz V1 W.heap.size := by rw [hN]; exact fz_at W #[.int .i64 0, .int .i64 0, .int .i64 0, .int .i64 0, .int .i64 0] 50 _ rfl
             have bl1 : W.heap.size < V1.heap.size := by rw [hN]; simp
             have bs1 : w10.heap.size ≤ W.heap.size := hs
             have bn : g0 ≠ W.heap.size := by omega
             clear hN
             replace hrow := hrow.below hb hHi
             replace hHi := Nat.le_trans hHi hb.size
             replace hrow2 := hrow2.below hb hHi2
             replace hHi2 := Nat.le_trans hHi2 hb.size
             replace bg0 := Box.below bg0 hb bl0
             replace bz0 := Fz.below bz0 hb bl0
             replace bl0 := Nat.lt_of_lt_of_le bl0 hb.size
             replace hS := hSb _ _ hq hb hS
             replace hC := hC.trans (hb.mono hs)
             replace hs := Nat.le_trans hs hb.size
             clear hb
             refine hK.out _ _ hS (fun hHeld => ?_)
             clear hK K
             try simp only [Act.put, y1, y2, y3, y4, y5, y6]
             clear hHeld
             have h := L2_11.out V1 _ _ g0 W.heap.size hrow hHi hrow2 hHi2 bg0 bz0 bl0 bs0 bg1 bz1 bl1 bs1 bn hS hs hC
             rw [hops.out, hQ.out, ha.out] at h
             try simp only [Act.put, y1, y2, y3, y4, y5, y6] at h
             exact h
          have L2_00 : Hid (∀ (W : World) (lo lo2 : Nat), (RdSS W lo Hb Ab n0 (rrBool l0)) → (Hb ≤ W.heap.size) → (Rd W lo2 Hy 2 Ay n4 (rRound l4)) → (Hy ≤ W.heap.size) → (Box W (w.heap.size) [.int .i64 x1_0, .int .i64 x1_1] ∧ Box W (w.heap.size + 1) [.int .i64 x2_0, .int .i64 x2_1, .int .i64 x2_2, .int .i64 x2_3, .int .i64 x2_4] ∧ Box W (w.heap.size + 2) [.int .i64 x3_0, .int .i64 x3_1, .int .i64 x3_2, .int .i64 x3_3, .int .i64 x3_4]) → (w10.heap.size ≤ W.heap.size) → (Below w10.heap.size w10 W) → wpAnyH Try.prog .any ops' Q' (fun W : World => Box W (w.heap.size) [.int .i64 x1_0, .int .i64 x1_1] ∧ Box W (w.heap.size + 1) [.int .i64 x2_0, .int .i64 x2_1, .int .i64 x2_2, .int .i64 x2_3, .int .i64 x2_4] ∧ Box W (w.heap.size + 2) [.int .i64 x3_0, .int .i64 x3_1, .int .i64 x3_2, .int .i64 x3_3, .int .i64 x3_4]) 13 #[true, true, true, true, true, true, false, true, false, false, false, false, false, false, false, false, false, false, false, false] (Act.put (Act.put a' (some 55) (.agg #[.int .i64 x1_0, .int .i64 x1_1])) (some 57) (.agg #[.int .i64 x2_0, .int .i64 x2_1, .int .i64 x2_2, .int .i64 x2_3, .int .i64 x2_4])) W) := by
           refine hide ?_
           intro W lo lo2 hrow hHi hrow2 hHi2 hS hs hC
           rw [hops.out, hQ.out, ha.out]
           try simp only [Act.put, y1, y2, y3, y4, y5, y6]
           have hq : w.heap.size + 3 ≤ W.heap.size := Nat.le_trans hp hs
           refine wpAnyH_ready (rs := [6, 14, 15]) (by kernel_rfl) (by simp) ?_
           refine AllReadyH.cons rfl (fun K hK => ?_) (AllReadyH.cons rfl (fun K hK => ?_) (AllReadyH.cons rfl (fun K hK => ?_) (AllReadyH.nil)))
           · go_simp
             refine (toControl_any x3_0 x3_1 x3_2 x3_3 x3_4 _).mono ?_
             rintro e V1 ⟨rfl, hb⟩
             replace hrow := hrow.below hb hHi
             replace hHi := Nat.le_trans hHi hb.size
             replace hrow2 := hrow2.below hb hHi2
             replace hHi2 := Nat.le_trans hHi2 hb.size
             replace hS := hSb _ _ hq hb hS
             replace hC := hC.trans (hb.mono hs)
             replace hs := Nat.le_trans hs hb.size
             clear hb
             refine hK.out _ _ hS (fun hHeld => ?_)
             clear hK K
             try simp only [Act.put, y1, y2, y3, y4, y5, y6]
             clear hHeld
             have h := L3_00.out V1 _ _ hrow hHi hrow2 hHi2 hS hs hC
             rw [hops.out, hQ.out, ha.out] at h
             try simp only [Act.put, y1, y2, y3, y4, y5, y6] at h
             exact h
           · go_simp
             obtain ⟨V1, hN⟩ : ∃ V : World, V = World.alloc W (.cells #[.int .i64 0, .int .i64 0, .int .i64 0, .int .i64 0, .int .i64 0] 50) := ⟨_, rfl⟩
             rw [← hN]
             have hb : Below W.heap.size W V1 := by rw [hN]; exact (Below.refl _ _).alloc (Nat.le_refl _) _
             have bg0 : Box V1 W.heap.size [.int .i64 0, .int .i64 0, .int .i64 0, .int .i64 0, .int .i64 0] := by rw [hN]; exact box_new W #[.int .i64 0, .int .i64 0, .int .i64 0, .int .i64 0, .int .i64 0] 50
             have bz0 : Fz V1 W.heap.size := by rw [hN]; exact fz_at W #[.int .i64 0, .int .i64 0, .int .i64 0, .int .i64 0, .int .i64 0] 50 _ rfl
             have bl0 : W.heap.size < V1.heap.size := by rw [hN]; simp
             have bs0 : w10.heap.size ≤ W.heap.size := hs
             clear hN
             replace hrow := hrow.below hb hHi
             replace hHi := Nat.le_trans hHi hb.size
             replace hrow2 := hrow2.below hb hHi2
             replace hHi2 := Nat.le_trans hHi2 hb.size
             replace hS := hSb _ _ hq hb hS
             replace hC := hC.trans (hb.mono hs)
             replace hs := Nat.le_trans hs hb.size
             clear hb
             refine hK.out _ _ hS (fun hHeld => ?_)
             clear hK K
             try simp only [Act.put, y1, y2, y3, y4, y5, y6]
             clear hHeld
             have h := L2_10.out V1 _ _ W.heap.size hrow hHi hrow2 hHi2 bg0 bz0 bl0 bs0 hS hs hC
             rw [hops.out, hQ.out, ha.out] at h
             try simp only [Act.put, y1, y2, y3, y4, y5, y6] at h
             exact h
           · go_simp
             obtain ⟨V1, hN⟩ : ∃ V : World, V = World.alloc W (.cells #[.int .i64 0, .int .i64 0, .int .i64 0, .int .i64 0, .int .i64 0] 50) := ⟨_, rfl⟩
             rw [← hN]
             have hb : Below W.heap.size W V1 := by rw [hN]; exact (Below.refl _ _).alloc (Nat.le_refl _) _
             have bg1 : Box V1 W.heap.size [.int .i64 0, .int .i64 0, .int .i64 0, .int .i64 0, .int .i64 0] := by rw [hN]; exact box_new W #[.int .i64 0, .int .i64 0, .int .i64 0, .int .i64 0, .int .i64 0] 50
             have bz1 : Fz V1 W.heap.size := by rw [hN]; exact fz_at W #[.int .i64 0, .int .i64 0, .int .i64 0, .int .i64 0, .int .i64 0] 50 _ rfl
             have bl1 : W.heap.size < V1.heap.size := by rw [hN]; simp
             have bs1 : w10.heap.size ≤ W.heap.size := hs
             clear hN
             replace hrow := hrow.below hb hHi
             replace hHi := Nat.le_trans hHi hb.size
             replace hrow2 := hrow2.below hb hHi2
             replace hHi2 := Nat.le_trans hHi2 hb.size
             replace hS := hSb _ _ hq hb hS
             replace hC := hC.trans (hb.mono hs)
             replace hs := Nat.le_trans hs hb.size
             clear hb
             refine hK.out _ _ hS (fun hHeld => ?_)
             clear hK K
             try simp only [Act.put, y1, y2, y3, y4, y5, y6]
             clear hHeld
             have h := L2_01.out V1 _ _ W.heap.size hrow hHi hrow2 hHi2 bg1 bz1 bl1 bs1 hS hs hC
             rw [hops.out, hQ.out, ha.out] at h
             try simp only [Act.put, y1, y2, y3, y4, y5, y6] at h
             exact h
          have L1_11 : Hid (∀ (W : World) (lo lo2 : Nat) (g0 : Nat) (g1 : Nat), (RdSS W lo Hb Ab n0 (rrBool l0)) → (Hb ≤ W.heap.size) → (Rd W lo2 Hy 2 Ay n4 (rRound l4)) → (Hy ≤ W.heap.size) → (Box W g0 [.int .i64 0, .int .i64 0, .int .i64 0, .int .i64 0, .int .i64 0]) → (Fz W g0) → (g0 < W.heap.size) → (w10.heap.size ≤ g0) → (Box W g1 [.int .i64 0, .int .i64 0, .int .i64 0, .int .i64 0, .int .i64 0]) → (Fz W g1) → (g1 < W.heap.size) → (w10.heap.size ≤ g1) → (g0 ≠ g1) → (Box W (w.heap.size) [.int .i64 x1_0, .int .i64 x1_1] ∧ Box W (w.heap.size + 1) [.int .i64 x2_0, .int .i64 x2_1, .int .i64 x2_2, .int .i64 x2_3, .int .i64 x2_4] ∧ Box W (w.heap.size + 2) [.int .i64 x3_0, .int .i64 x3_1, .int .i64 x3_2, .int .i64 x3_3, .int .i64 x3_4]) → (w10.heap.size ≤ W.heap.size) → (Below w10.heap.size w10 W) → wpAnyH Try.prog .any ops' Q' (fun W : World => Box W (w.heap.size) [.int .i64 x1_0, .int .i64 x1_1] ∧ Box W (w.heap.size + 1) [.int .i64 x2_0, .int .i64 x2_1, .int .i64 x2_2, .int .i64 x2_3, .int .i64 x2_4] ∧ Box W (w.heap.size + 2) [.int .i64 x3_0, .int .i64 x3_1, .int .i64 x3_2, .int .i64 x3_3, .int .i64 x3_4]) 12 #[true, true, true, true, false, true, false, true, false, false, false, false, false, false, true, true, false, false, false, false] (Act.put (Act.put (Act.put a' (some 55) (.agg #[.int .i64 x1_0, .int .i64 x1_1])) (some 18) (.pointer (some ⟨g0, 0, none⟩))) (some 19) (.pointer (some ⟨g1, 0, none⟩))) W) := by
           refine hide ?_
           intro W lo lo2 g0 g1 hrow hHi hrow2 hHi2 bg0 bz0 bl0 bs0 bg1 bz1 bl1 bs1 bn hS hs hC
           rw [hops.out, hQ.out, ha.out]
           try simp only [Act.put, y1, y2, y3, y4, y5, y6]
           have hq : w.heap.size + 3 ≤ W.heap.size := Nat.le_trans hp hs
           refine wpAnyH_ready (rs := [4]) (by kernel_rfl) (by simp) ?_
           refine AllReadyH.cons rfl (fun K hK => ?_) (AllReadyH.nil)
           · go_simp
             refine (toControl_any x2_0 x2_1 x2_2 x2_3 x2_4 _).mono ?_
             rintro e V1 ⟨rfl, hb⟩
             replace hrow := hrow.below hb hHi
             replace hHi := Nat.le_trans hHi hb.size
             replace hrow2 := hrow2.below hb hHi2
             replace hHi2 := Nat.le_trans hHi2 hb.size
             replace bg0 := Box.below bg0 hb bl0
             replace bz0 := Fz.below bz0 hb bl0
             replace bl0 := Nat.lt_of_lt_of_le bl0 hb.size
             replace bg1 := Box.below bg1 hb bl1
             replace bz1 := Fz.below bz1 hb bl1
             replace bl1 := Nat.lt_of_lt_of_le bl1 hb.size
             replace hS := hSb _ _ hq hb hS
             replace hC := hC.trans (hb.mono hs)
             replace hs := Nat.le_trans hs hb.size
             clear hb
             refine hK.out _ _ hS (fun hHeld => ?_)
             clear hK K
             try simp only [Act.put, y1, y2, y3, y4, y5, y6]
             clear hHeld
             have h := L2_11.out V1 _ _ g0 g1 hrow hHi hrow2 hHi2 bg0 bz0 bl0 bs0 bg1 bz1 bl1 bs1 bn hS hs hC
             rw [hops.out, hQ.out, ha.out] at h
             try simp only [Act.put, y1, y2, y3, y4, y5, y6] at h
             exact h
          have L1_01 : Hid (∀ (W : World) (lo lo2 : Nat) (g1 : Nat), (RdSS W lo Hb Ab n0 (rrBool l0)) → (Hb ≤ W.heap.size) → (Rd W lo2 Hy 2 Ay n4 (rRound l4)) → (Hy ≤ W.heap.size) → (Box W g1 [.int .i64 0, .int .i64 0, .int .i64 0, .int .i64 0, .int .i64 0]) → (Fz W g1) → (g1 < W.heap.size) → (w10.heap.size ≤ g1) → (Box W (w.heap.size) [.int .i64 x1_0, .int .i64 x1_1] ∧ Box W (w.heap.size + 1) [.int .i64 x2_0, .int .i64 x2_1, .int .i64 x2_2, .int .i64 x2_3, .int .i64 x2_4] ∧ Box W (w.heap.size + 2) [.int .i64 x3_0, .int .i64 x3_1, .int .i64 x3_2, .int .i64 x3_3, .int .i64 x3_4]) → (w10.heap.size ≤ W.heap.size) → (Below w10.heap.size w10 W) → wpAnyH Try.prog .any ops' Q' (fun W : World => Box W (w.heap.size) [.int .i64 x1_0, .int .i64 x1_1] ∧ Box W (w.heap.size + 1) [.int .i64 x2_0, .int .i64 x2_1, .int .i64 x2_2, .int .i64 x2_3, .int .i64 x2_4] ∧ Box W (w.heap.size + 2) [.int .i64 x3_0, .int .i64 x3_1, .int .i64 x3_2, .int .i64 x3_3, .int .i64 x3_4]) 13 #[true, true, true, true, false, true, false, true, false, false, false, false, false, false, false, true, false, false, false, false] (Act.put (Act.put a' (some 55) (.agg #[.int .i64 x1_0, .int .i64 x1_1])) (some 19) (.pointer (some ⟨g1, 0, none⟩))) W) := by
           refine hide ?_
           intro W lo lo2 g1 hrow hHi hrow2 hHi2 bg1 bz1 bl1 bs1 hS hs hC
           rw [hops.out, hQ.out, ha.out]
           try simp only [Act.put, y1, y2, y3, y4, y5, y6]
           have hq : w.heap.size + 3 ≤ W.heap.size := Nat.le_trans hp hs
           refine wpAnyH_ready (rs := [4, 14]) (by kernel_rfl) (by simp) ?_
           refine AllReadyH.cons rfl (fun K hK => ?_) (AllReadyH.cons rfl (fun K hK => ?_) (AllReadyH.nil))
           · go_simp
             refine (toControl_any x2_0 x2_1 x2_2 x2_3 x2_4 _).mono ?_
             rintro e V1 ⟨rfl, hb⟩
             replace hrow := hrow.below hb hHi
             replace hHi := Nat.le_trans hHi hb.size
             replace hrow2 := hrow2.below hb hHi2
             replace hHi2 := Nat.le_trans hHi2 hb.size
             replace bg1 := Box.below bg1 hb bl1
             replace bz1 := Fz.below bz1 hb bl1
             replace bl1 := Nat.lt_of_lt_of_le bl1 hb.size
             replace hS := hSb _ _ hq hb hS
             replace hC := hC.trans (hb.mono hs)
             replace hs := Nat.le_trans hs hb.size
             clear hb
             refine hK.out _ _ hS (fun hHeld => ?_)
             clear hK K
             try simp only [Act.put, y1, y2, y3, y4, y5, y6]
             clear hHeld
             have h := L2_01.out V1 _ _ g1 hrow hHi hrow2 hHi2 bg1 bz1 bl1 bs1 hS hs hC
             rw [hops.out, hQ.out, ha.out] at h
             try simp only [Act.put, y1, y2, y3, y4, y5, y6] at h
             exact h
           · go_simp
             obtain ⟨V1, hN⟩ : ∃ V : World, V = World.alloc W (.cells #[.int .i64 0, .int .i64 0, .int .i64 0, .int .i64 0, .int .i64 0] 50) := ⟨_, rfl⟩
             rw [← hN]
             have hb : Below W.heap.size W V1 := by rw [hN]; exact (Below.refl _ _).alloc (Nat.le_refl _) _
             have bg0 : Box V1 W.heap.size [.int .i64 0, .int .i64 0, .int .i64 0, .int .i64 0, .int .i64 0] := by rw [hN]; exact box_new W #[.int .i64 0, .int .i64 0, .int .i64 0, .int .i64 0, .int .i64 0] 50
             have bz0 : Fz V1 W.heap.size := by rw [hN]; exact fz_at W #[.int .i64 0, .int .i64 0, .int .i64 0, .int .i64 0, .int .i64 0] 50 _ rfl
             have bl0 : W.heap.size < V1.heap.size := by rw [hN]; simp
             have bs0 : w10.heap.size ≤ W.heap.size := hs
             have bn : W.heap.size ≠ g1 := by omega
             clear hN
             replace hrow := hrow.below hb hHi
             replace hHi := Nat.le_trans hHi hb.size
             replace hrow2 := hrow2.below hb hHi2
             replace hHi2 := Nat.le_trans hHi2 hb.size
             replace bg1 := Box.below bg1 hb bl1
             replace bz1 := Fz.below bz1 hb bl1
             replace bl1 := Nat.lt_of_lt_of_le bl1 hb.size
             replace hS := hSb _ _ hq hb hS
             replace hC := hC.trans (hb.mono hs)
             replace hs := Nat.le_trans hs hb.size
             clear hb
             refine hK.out _ _ hS (fun hHeld => ?_)
             clear hK K
             try simp only [Act.put, y1, y2, y3, y4, y5, y6]
             clear hHeld
             have h := L1_11.out V1 _ _ W.heap.size g1 hrow hHi hrow2 hHi2 bg0 bz0 bl0 bs0 bg1 bz1 bl1 bs1 bn hS hs hC
             rw [hops.out, hQ.out, ha.out] at h
             try simp only [Act.put, y1, y2, y3, y4, y5, y6] at h
             exact h
          have L1_10 : Hid (∀ (W : World) (lo lo2 : Nat) (g0 : Nat), (RdSS W lo Hb Ab n0 (rrBool l0)) → (Hb ≤ W.heap.size) → (Rd W lo2 Hy 2 Ay n4 (rRound l4)) → (Hy ≤ W.heap.size) → (Box W g0 [.int .i64 0, .int .i64 0, .int .i64 0, .int .i64 0, .int .i64 0]) → (Fz W g0) → (g0 < W.heap.size) → (w10.heap.size ≤ g0) → (Box W (w.heap.size) [.int .i64 x1_0, .int .i64 x1_1] ∧ Box W (w.heap.size + 1) [.int .i64 x2_0, .int .i64 x2_1, .int .i64 x2_2, .int .i64 x2_3, .int .i64 x2_4] ∧ Box W (w.heap.size + 2) [.int .i64 x3_0, .int .i64 x3_1, .int .i64 x3_2, .int .i64 x3_3, .int .i64 x3_4]) → (w10.heap.size ≤ W.heap.size) → (Below w10.heap.size w10 W) → wpAnyH Try.prog .any ops' Q' (fun W : World => Box W (w.heap.size) [.int .i64 x1_0, .int .i64 x1_1] ∧ Box W (w.heap.size + 1) [.int .i64 x2_0, .int .i64 x2_1, .int .i64 x2_2, .int .i64 x2_3, .int .i64 x2_4] ∧ Box W (w.heap.size + 2) [.int .i64 x3_0, .int .i64 x3_1, .int .i64 x3_2, .int .i64 x3_3, .int .i64 x3_4]) 13 #[true, true, true, true, false, true, false, true, false, false, false, false, false, false, true, false, false, false, false, false] (Act.put (Act.put a' (some 55) (.agg #[.int .i64 x1_0, .int .i64 x1_1])) (some 18) (.pointer (some ⟨g0, 0, none⟩))) W) := by
           refine hide ?_
           intro W lo lo2 g0 hrow hHi hrow2 hHi2 bg0 bz0 bl0 bs0 hS hs hC
           rw [hops.out, hQ.out, ha.out]
           try simp only [Act.put, y1, y2, y3, y4, y5, y6]
           have hq : w.heap.size + 3 ≤ W.heap.size := Nat.le_trans hp hs
           refine wpAnyH_ready (rs := [4, 15]) (by kernel_rfl) (by simp) ?_
           refine AllReadyH.cons rfl (fun K hK => ?_) (AllReadyH.cons rfl (fun K hK => ?_) (AllReadyH.nil))
           · go_simp
             refine (toControl_any x2_0 x2_1 x2_2 x2_3 x2_4 _).mono ?_
             rintro e V1 ⟨rfl, hb⟩
             replace hrow := hrow.below hb hHi
             replace hHi := Nat.le_trans hHi hb.size
             replace hrow2 := hrow2.below hb hHi2
             replace hHi2 := Nat.le_trans hHi2 hb.size
             replace bg0 := Box.below bg0 hb bl0
             replace bz0 := Fz.below bz0 hb bl0
             replace bl0 := Nat.lt_of_lt_of_le bl0 hb.size
             replace hS := hSb _ _ hq hb hS
             replace hC := hC.trans (hb.mono hs)
             replace hs := Nat.le_trans hs hb.size
             clear hb
             refine hK.out _ _ hS (fun hHeld => ?_)
             clear hK K
             try simp only [Act.put, y1, y2, y3, y4, y5, y6]
             clear hHeld
             have h := L2_10.out V1 _ _ g0 hrow hHi hrow2 hHi2 bg0 bz0 bl0 bs0 hS hs hC
             rw [hops.out, hQ.out, ha.out] at h
             try simp only [Act.put, y1, y2, y3, y4, y5, y6] at h
             exact h
           · go_simp
             obtain ⟨V1, hN⟩ : ∃ V : World, V = World.alloc W (.cells #[.int .i64 0, .int .i64 0, .int .i64 0, .int .i64 0, .int .i64 0] 50) := ⟨_, rfl⟩
             rw [← hN]
             have hb : Below W.heap.size W V1 := by rw [hN]; exact (Below.refl _ _).alloc (Nat.le_refl _) _
             have bg1 : Box V1 W.heap.size [.int .i64 0, .int .i64 0, .int .i64 0, .int .i64 0, .int .i64 0] := by rw [hN]; exact box_new W #[.int .i64 0, .int .i64 0, .int .i64 0, .int .i64 0, .int .i64 0] 50
             have bz1 : Fz V1 W.heap.size := by rw [hN]; exact fz_at W #[.int .i64 0, .int .i64 0, .int .i64 0, .int .i64 0, .int .i64 0] 50 _ rfl
             have bl1 : W.heap.size < V1.heap.size := by rw [hN]; simp
             have bs1 : w10.heap.size ≤ W.heap.size := hs
             have bn : g0 ≠ W.heap.size := by omega
             clear hN
             replace hrow := hrow.below hb hHi
             replace hHi := Nat.le_trans hHi hb.size
             replace hrow2 := hrow2.below hb hHi2
             replace hHi2 := Nat.le_trans hHi2 hb.size
             replace bg0 := Box.below bg0 hb bl0
             replace bz0 := Fz.below bz0 hb bl0
             replace bl0 := Nat.lt_of_lt_of_le bl0 hb.size
             replace hS := hSb _ _ hq hb hS
             replace hC := hC.trans (hb.mono hs)
             replace hs := Nat.le_trans hs hb.size
             clear hb
             refine hK.out _ _ hS (fun hHeld => ?_)
             clear hK K
             try simp only [Act.put, y1, y2, y3, y4, y5, y6]
             clear hHeld
             have h := L1_11.out V1 _ _ g0 W.heap.size hrow hHi hrow2 hHi2 bg0 bz0 bl0 bs0 bg1 bz1 bl1 bs1 bn hS hs hC
             rw [hops.out, hQ.out, ha.out] at h
             try simp only [Act.put, y1, y2, y3, y4, y5, y6] at h
             exact h
          have L1_00 : Hid (∀ (W : World) (lo lo2 : Nat), (RdSS W lo Hb Ab n0 (rrBool l0)) → (Hb ≤ W.heap.size) → (Rd W lo2 Hy 2 Ay n4 (rRound l4)) → (Hy ≤ W.heap.size) → (Box W (w.heap.size) [.int .i64 x1_0, .int .i64 x1_1] ∧ Box W (w.heap.size + 1) [.int .i64 x2_0, .int .i64 x2_1, .int .i64 x2_2, .int .i64 x2_3, .int .i64 x2_4] ∧ Box W (w.heap.size + 2) [.int .i64 x3_0, .int .i64 x3_1, .int .i64 x3_2, .int .i64 x3_3, .int .i64 x3_4]) → (w10.heap.size ≤ W.heap.size) → (Below w10.heap.size w10 W) → wpAnyH Try.prog .any ops' Q' (fun W : World => Box W (w.heap.size) [.int .i64 x1_0, .int .i64 x1_1] ∧ Box W (w.heap.size + 1) [.int .i64 x2_0, .int .i64 x2_1, .int .i64 x2_2, .int .i64 x2_3, .int .i64 x2_4] ∧ Box W (w.heap.size + 2) [.int .i64 x3_0, .int .i64 x3_1, .int .i64 x3_2, .int .i64 x3_3, .int .i64 x3_4]) 14 #[true, true, true, true, false, true, false, true, false, false, false, false, false, false, false, false, false, false, false, false] (Act.put a' (some 55) (.agg #[.int .i64 x1_0, .int .i64 x1_1])) W) := by
           refine hide ?_
           intro W lo lo2 hrow hHi hrow2 hHi2 hS hs hC
           rw [hops.out, hQ.out, ha.out]
           try simp only [Act.put, y1, y2, y3, y4, y5, y6]
           have hq : w.heap.size + 3 ≤ W.heap.size := Nat.le_trans hp hs
           refine wpAnyH_ready (rs := [4, 14, 15]) (by kernel_rfl) (by simp) ?_
           refine AllReadyH.cons rfl (fun K hK => ?_) (AllReadyH.cons rfl (fun K hK => ?_) (AllReadyH.cons rfl (fun K hK => ?_) (AllReadyH.nil)))
           · go_simp
             refine (toControl_any x2_0 x2_1 x2_2 x2_3 x2_4 _).mono ?_
             rintro e V1 ⟨rfl, hb⟩
             replace hrow := hrow.below hb hHi
             replace hHi := Nat.le_trans hHi hb.size
             replace hrow2 := hrow2.below hb hHi2
             replace hHi2 := Nat.le_trans hHi2 hb.size
             replace hS := hSb _ _ hq hb hS
             replace hC := hC.trans (hb.mono hs)
             replace hs := Nat.le_trans hs hb.size
             clear hb
             refine hK.out _ _ hS (fun hHeld => ?_)
             clear hK K
             try simp only [Act.put, y1, y2, y3, y4, y5, y6]
             clear hHeld
             have h := L2_00.out V1 _ _ hrow hHi hrow2 hHi2 hS hs hC
             rw [hops.out, hQ.out, ha.out] at h
             try simp only [Act.put, y1, y2, y3, y4, y5, y6] at h
             exact h
           · go_simp
             obtain ⟨V1, hN⟩ : ∃ V : World, V = World.alloc W (.cells #[.int .i64 0, .int .i64 0, .int .i64 0, .int .i64 0, .int .i64 0] 50) := ⟨_, rfl⟩
             rw [← hN]
             have hb : Below W.heap.size W V1 := by rw [hN]; exact (Below.refl _ _).alloc (Nat.le_refl _) _
             have bg0 : Box V1 W.heap.size [.int .i64 0, .int .i64 0, .int .i64 0, .int .i64 0, .int .i64 0] := by rw [hN]; exact box_new W #[.int .i64 0, .int .i64 0, .int .i64 0, .int .i64 0, .int .i64 0] 50
             have bz0 : Fz V1 W.heap.size := by rw [hN]; exact fz_at W #[.int .i64 0, .int .i64 0, .int .i64 0, .int .i64 0, .int .i64 0] 50 _ rfl
             have bl0 : W.heap.size < V1.heap.size := by rw [hN]; simp
             have bs0 : w10.heap.size ≤ W.heap.size := hs
             clear hN
             replace hrow := hrow.below hb hHi
             replace hHi := Nat.le_trans hHi hb.size
             replace hrow2 := hrow2.below hb hHi2
             replace hHi2 := Nat.le_trans hHi2 hb.size
             replace hS := hSb _ _ hq hb hS
             replace hC := hC.trans (hb.mono hs)
             replace hs := Nat.le_trans hs hb.size
             clear hb
             refine hK.out _ _ hS (fun hHeld => ?_)
             clear hK K
             try simp only [Act.put, y1, y2, y3, y4, y5, y6]
             clear hHeld
             have h := L1_10.out V1 _ _ W.heap.size hrow hHi hrow2 hHi2 bg0 bz0 bl0 bs0 hS hs hC
             rw [hops.out, hQ.out, ha.out] at h
             try simp only [Act.put, y1, y2, y3, y4, y5, y6] at h
             exact h
           · go_simp
             obtain ⟨V1, hN⟩ : ∃ V : World, V = World.alloc W (.cells #[.int .i64 0, .int .i64 0, .int .i64 0, .int .i64 0, .int .i64 0] 50) := ⟨_, rfl⟩
             rw [← hN]
             have hb : Below W.heap.size W V1 := by rw [hN]; exact (Below.refl _ _).alloc (Nat.le_refl _) _
             have bg1 : Box V1 W.heap.size [.int .i64 0, .int .i64 0, .int .i64 0, .int .i64 0, .int .i64 0] := by rw [hN]; exact box_new W #[.int .i64 0, .int .i64 0, .int .i64 0, .int .i64 0, .int .i64 0] 50
             have bz1 : Fz V1 W.heap.size := by rw [hN]; exact fz_at W #[.int .i64 0, .int .i64 0, .int .i64 0, .int .i64 0, .int .i64 0] 50 _ rfl
             have bl1 : W.heap.size < V1.heap.size := by rw [hN]; simp
             have bs1 : w10.heap.size ≤ W.heap.size := hs
             clear hN
             replace hrow := hrow.below hb hHi
             replace hHi := Nat.le_trans hHi hb.size
             replace hrow2 := hrow2.below hb hHi2
             replace hHi2 := Nat.le_trans hHi2 hb.size
             replace hS := hSb _ _ hq hb hS
             replace hC := hC.trans (hb.mono hs)
             replace hs := Nat.le_trans hs hb.size
             clear hb
             refine hK.out _ _ hS (fun hHeld => ?_)
             clear hK K
             try simp only [Act.put, y1, y2, y3, y4, y5, y6]
             clear hHeld
             have h := L1_01.out V1 _ _ W.heap.size hrow hHi hrow2 hHi2 bg1 bz1 bl1 bs1 hS hs hC
             rw [hops.out, hQ.out, ha.out] at h
             try simp only [Act.put, y1, y2, y3, y4, y5, y6] at h
             exact h
          have L0_11 : Hid (∀ (W : World) (lo lo2 : Nat) (g0 : Nat) (g1 : Nat), (RdSS W lo Hb Ab n0 (rrBool l0)) → (Hb ≤ W.heap.size) → (Rd W lo2 Hy 2 Ay n4 (rRound l4)) → (Hy ≤ W.heap.size) → (Box W g0 [.int .i64 0, .int .i64 0, .int .i64 0, .int .i64 0, .int .i64 0]) → (Fz W g0) → (g0 < W.heap.size) → (w10.heap.size ≤ g0) → (Box W g1 [.int .i64 0, .int .i64 0, .int .i64 0, .int .i64 0, .int .i64 0]) → (Fz W g1) → (g1 < W.heap.size) → (w10.heap.size ≤ g1) → (g0 ≠ g1) → (Box W (w.heap.size) [.int .i64 x1_0, .int .i64 x1_1] ∧ Box W (w.heap.size + 1) [.int .i64 x2_0, .int .i64 x2_1, .int .i64 x2_2, .int .i64 x2_3, .int .i64 x2_4] ∧ Box W (w.heap.size + 2) [.int .i64 x3_0, .int .i64 x3_1, .int .i64 x3_2, .int .i64 x3_3, .int .i64 x3_4]) → (w10.heap.size ≤ W.heap.size) → (Below w10.heap.size w10 W) → wpAnyH Try.prog .any ops' Q' (fun W : World => Box W (w.heap.size) [.int .i64 x1_0, .int .i64 x1_1] ∧ Box W (w.heap.size + 1) [.int .i64 x2_0, .int .i64 x2_1, .int .i64 x2_2, .int .i64 x2_3, .int .i64 x2_4] ∧ Box W (w.heap.size + 2) [.int .i64 x3_0, .int .i64 x3_1, .int .i64 x3_2, .int .i64 x3_3, .int .i64 x3_4]) 13 #[true, true, false, true, false, true, false, true, false, false, false, false, false, false, true, true, false, false, false, false] (Act.put (Act.put a' (some 18) (.pointer (some ⟨g0, 0, none⟩))) (some 19) (.pointer (some ⟨g1, 0, none⟩))) W) := by
           refine hide ?_
           intro W lo lo2 g0 g1 hrow hHi hrow2 hHi2 bg0 bz0 bl0 bs0 bg1 bz1 bl1 bs1 bn hS hs hC
           rw [hops.out, hQ.out, ha.out]
           try simp only [Act.put, y1, y2, y3, y4, y5, y6]
           have hq : w.heap.size + 3 ≤ W.heap.size := Nat.le_trans hp hs
           refine wpAnyH_ready (rs := [2]) (by kernel_rfl) (by simp) ?_
           refine AllReadyH.cons rfl (fun K hK => ?_) (AllReadyH.nil)
           · go_simp
             refine (toRules_any x1_0 x1_1 _).mono ?_
             rintro e V1 ⟨rfl, hb⟩
             replace hrow := hrow.below hb hHi
             replace hHi := Nat.le_trans hHi hb.size
             replace hrow2 := hrow2.below hb hHi2
             replace hHi2 := Nat.le_trans hHi2 hb.size
             replace bg0 := Box.below bg0 hb bl0
             replace bz0 := Fz.below bz0 hb bl0
             replace bl0 := Nat.lt_of_lt_of_le bl0 hb.size
             replace bg1 := Box.below bg1 hb bl1
             replace bz1 := Fz.below bz1 hb bl1
             replace bl1 := Nat.lt_of_lt_of_le bl1 hb.size
             replace hS := hSb _ _ hq hb hS
             replace hC := hC.trans (hb.mono hs)
             replace hs := Nat.le_trans hs hb.size
             clear hb
             refine hK.out _ _ hS (fun hHeld => ?_)
             clear hK K
             try simp only [Act.put, y1, y2, y3, y4, y5, y6]
             clear hHeld
             have h := L1_11.out V1 _ _ g0 g1 hrow hHi hrow2 hHi2 bg0 bz0 bl0 bs0 bg1 bz1 bl1 bs1 bn hS hs hC
             rw [hops.out, hQ.out, ha.out] at h
             try simp only [Act.put, y1, y2, y3, y4, y5, y6] at h
             exact h
          have L0_01 : Hid (∀ (W : World) (lo lo2 : Nat) (g1 : Nat), (RdSS W lo Hb Ab n0 (rrBool l0)) → (Hb ≤ W.heap.size) → (Rd W lo2 Hy 2 Ay n4 (rRound l4)) → (Hy ≤ W.heap.size) → (Box W g1 [.int .i64 0, .int .i64 0, .int .i64 0, .int .i64 0, .int .i64 0]) → (Fz W g1) → (g1 < W.heap.size) → (w10.heap.size ≤ g1) → (Box W (w.heap.size) [.int .i64 x1_0, .int .i64 x1_1] ∧ Box W (w.heap.size + 1) [.int .i64 x2_0, .int .i64 x2_1, .int .i64 x2_2, .int .i64 x2_3, .int .i64 x2_4] ∧ Box W (w.heap.size + 2) [.int .i64 x3_0, .int .i64 x3_1, .int .i64 x3_2, .int .i64 x3_3, .int .i64 x3_4]) → (w10.heap.size ≤ W.heap.size) → (Below w10.heap.size w10 W) → wpAnyH Try.prog .any ops' Q' (fun W : World => Box W (w.heap.size) [.int .i64 x1_0, .int .i64 x1_1] ∧ Box W (w.heap.size + 1) [.int .i64 x2_0, .int .i64 x2_1, .int .i64 x2_2, .int .i64 x2_3, .int .i64 x2_4] ∧ Box W (w.heap.size + 2) [.int .i64 x3_0, .int .i64 x3_1, .int .i64 x3_2, .int .i64 x3_3, .int .i64 x3_4]) 14 #[true, true, false, true, false, true, false, true, false, false, false, false, false, false, false, true, false, false, false, false] (Act.put a' (some 19) (.pointer (some ⟨g1, 0, none⟩))) W) := by
           refine hide ?_
           intro W lo lo2 g1 hrow hHi hrow2 hHi2 bg1 bz1 bl1 bs1 hS hs hC
           rw [hops.out, hQ.out, ha.out]
           try simp only [Act.put, y1, y2, y3, y4, y5, y6]
           have hq : w.heap.size + 3 ≤ W.heap.size := Nat.le_trans hp hs
           refine wpAnyH_ready (rs := [2, 14]) (by kernel_rfl) (by simp) ?_
           refine AllReadyH.cons rfl (fun K hK => ?_) (AllReadyH.cons rfl (fun K hK => ?_) (AllReadyH.nil))
           · go_simp
             refine (toRules_any x1_0 x1_1 _).mono ?_
             rintro e V1 ⟨rfl, hb⟩
             replace hrow := hrow.below hb hHi
             replace hHi := Nat.le_trans hHi hb.size
             replace hrow2 := hrow2.below hb hHi2
             replace hHi2 := Nat.le_trans hHi2 hb.size
             replace bg1 := Box.below bg1 hb bl1
             replace bz1 := Fz.below bz1 hb bl1
             replace bl1 := Nat.lt_of_lt_of_le bl1 hb.size
             replace hS := hSb _ _ hq hb hS
             replace hC := hC.trans (hb.mono hs)
             replace hs := Nat.le_trans hs hb.size
             clear hb
             refine hK.out _ _ hS (fun hHeld => ?_)
             clear hK K
             try simp only [Act.put, y1, y2, y3, y4, y5, y6]
             clear hHeld
             have h := L1_01.out V1 _ _ g1 hrow hHi hrow2 hHi2 bg1 bz1 bl1 bs1 hS hs hC
             rw [hops.out, hQ.out, ha.out] at h
             try simp only [Act.put, y1, y2, y3, y4, y5, y6] at h
             exact h
           · go_simp
             obtain ⟨V1, hN⟩ : ∃ V : World, V = World.alloc W (.cells #[.int .i64 0, .int .i64 0, .int .i64 0, .int .i64 0, .int .i64 0] 50) := ⟨_, rfl⟩
             rw [← hN]
             have hb : Below W.heap.size W V1 := by rw [hN]; exact (Below.refl _ _).alloc (Nat.le_refl _) _
             have bg0 : Box V1 W.heap.size [.int .i64 0, .int .i64 0, .int .i64 0, .int .i64 0, .int .i64 0] := by rw [hN]; exact box_new W #[.int .i64 0, .int .i64 0, .int .i64 0, .int .i64 0, .int .i64 0] 50
             have bz0 : Fz V1 W.heap.size := by rw [hN]; exact fz_at W #[.int .i64 0, .int .i64 0, .int .i64 0, .int .i64 0, .int .i64 0] 50 _ rfl
             have bl0 : W.heap.size < V1.heap.size := by rw [hN]; simp
             have bs0 : w10.heap.size ≤ W.heap.size := hs
             have bn : W.heap.size ≠ g1 := by omega
             clear hN
             replace hrow := hrow.below hb hHi
             replace hHi := Nat.le_trans hHi hb.size
             replace hrow2 := hrow2.below hb hHi2
             replace hHi2 := Nat.le_trans hHi2 hb.size
             replace bg1 := Box.below bg1 hb bl1
             replace bz1 := Fz.below bz1 hb bl1
             replace bl1 := Nat.lt_of_lt_of_le bl1 hb.size
             replace hS := hSb _ _ hq hb hS
             replace hC := hC.trans (hb.mono hs)
             replace hs := Nat.le_trans hs hb.size
             clear hb
             refine hK.out _ _ hS (fun hHeld => ?_)
             clear hK K
             try simp only [Act.put, y1, y2, y3, y4, y5, y6]
             clear hHeld
             have h := L0_11.out V1 _ _ W.heap.size g1 hrow hHi hrow2 hHi2 bg0 bz0 bl0 bs0 bg1 bz1 bl1 bs1 bn hS hs hC
             rw [hops.out, hQ.out, ha.out] at h
             try simp only [Act.put, y1, y2, y3, y4, y5, y6] at h
             exact h
          have L0_10 : Hid (∀ (W : World) (lo lo2 : Nat) (g0 : Nat), (RdSS W lo Hb Ab n0 (rrBool l0)) → (Hb ≤ W.heap.size) → (Rd W lo2 Hy 2 Ay n4 (rRound l4)) → (Hy ≤ W.heap.size) → (Box W g0 [.int .i64 0, .int .i64 0, .int .i64 0, .int .i64 0, .int .i64 0]) → (Fz W g0) → (g0 < W.heap.size) → (w10.heap.size ≤ g0) → (Box W (w.heap.size) [.int .i64 x1_0, .int .i64 x1_1] ∧ Box W (w.heap.size + 1) [.int .i64 x2_0, .int .i64 x2_1, .int .i64 x2_2, .int .i64 x2_3, .int .i64 x2_4] ∧ Box W (w.heap.size + 2) [.int .i64 x3_0, .int .i64 x3_1, .int .i64 x3_2, .int .i64 x3_3, .int .i64 x3_4]) → (w10.heap.size ≤ W.heap.size) → (Below w10.heap.size w10 W) → wpAnyH Try.prog .any ops' Q' (fun W : World => Box W (w.heap.size) [.int .i64 x1_0, .int .i64 x1_1] ∧ Box W (w.heap.size + 1) [.int .i64 x2_0, .int .i64 x2_1, .int .i64 x2_2, .int .i64 x2_3, .int .i64 x2_4] ∧ Box W (w.heap.size + 2) [.int .i64 x3_0, .int .i64 x3_1, .int .i64 x3_2, .int .i64 x3_3, .int .i64 x3_4]) 14 #[true, true, false, true, false, true, false, true, false, false, false, false, false, false, true, false, false, false, false, false] (Act.put a' (some 18) (.pointer (some ⟨g0, 0, none⟩))) W) := by
           refine hide ?_
           intro W lo lo2 g0 hrow hHi hrow2 hHi2 bg0 bz0 bl0 bs0 hS hs hC
           rw [hops.out, hQ.out, ha.out]
           try simp only [Act.put, y1, y2, y3, y4, y5, y6]
           have hq : w.heap.size + 3 ≤ W.heap.size := Nat.le_trans hp hs
           refine wpAnyH_ready (rs := [2, 15]) (by kernel_rfl) (by simp) ?_
           refine AllReadyH.cons rfl (fun K hK => ?_) (AllReadyH.cons rfl (fun K hK => ?_) (AllReadyH.nil))
           · go_simp
             refine (toRules_any x1_0 x1_1 _).mono ?_
             rintro e V1 ⟨rfl, hb⟩
             replace hrow := hrow.below hb hHi
             replace hHi := Nat.le_trans hHi hb.size
             replace hrow2 := hrow2.below hb hHi2
             replace hHi2 := Nat.le_trans hHi2 hb.size
             replace bg0 := Box.below bg0 hb bl0
             replace bz0 := Fz.below bz0 hb bl0
             replace bl0 := Nat.lt_of_lt_of_le bl0 hb.size
             replace hS := hSb _ _ hq hb hS
             replace hC := hC.trans (hb.mono hs)
             replace hs := Nat.le_trans hs hb.size
             clear hb
             refine hK.out _ _ hS (fun hHeld => ?_)
             clear hK K
             try simp only [Act.put, y1, y2, y3, y4, y5, y6]
             clear hHeld
             have h := L1_10.out V1 _ _ g0 hrow hHi hrow2 hHi2 bg0 bz0 bl0 bs0 hS hs hC
             rw [hops.out, hQ.out, ha.out] at h
             try simp only [Act.put, y1, y2, y3, y4, y5, y6] at h
             exact h
           · go_simp
             obtain ⟨V1, hN⟩ : ∃ V : World, V = World.alloc W (.cells #[.int .i64 0, .int .i64 0, .int .i64 0, .int .i64 0, .int .i64 0] 50) := ⟨_, rfl⟩
             rw [← hN]
             have hb : Below W.heap.size W V1 := by rw [hN]; exact (Below.refl _ _).alloc (Nat.le_refl _) _
             have bg1 : Box V1 W.heap.size [.int .i64 0, .int .i64 0, .int .i64 0, .int .i64 0, .int .i64 0] := by rw [hN]; exact box_new W #[.int .i64 0, .int .i64 0, .int .i64 0, .int .i64 0, .int .i64 0] 50
             have bz1 : Fz V1 W.heap.size := by rw [hN]; exact fz_at W #[.int .i64 0, .int .i64 0, .int .i64 0, .int .i64 0, .int .i64 0] 50 _ rfl
             have bl1 : W.heap.size < V1.heap.size := by rw [hN]; simp
             have bs1 : w10.heap.size ≤ W.heap.size := hs
             have bn : g0 ≠ W.heap.size := by omega
             clear hN
             replace hrow := hrow.below hb hHi
             replace hHi := Nat.le_trans hHi hb.size
             replace hrow2 := hrow2.below hb hHi2
             replace hHi2 := Nat.le_trans hHi2 hb.size
             replace bg0 := Box.below bg0 hb bl0
             replace bz0 := Fz.below bz0 hb bl0
             replace bl0 := Nat.lt_of_lt_of_le bl0 hb.size
             replace hS := hSb _ _ hq hb hS
             replace hC := hC.trans (hb.mono hs)
             replace hs := Nat.le_trans hs hb.size
             clear hb
             refine hK.out _ _ hS (fun hHeld => ?_)
             clear hK K
             try simp only [Act.put, y1, y2, y3, y4, y5, y6]
             clear hHeld
             have h := L0_11.out V1 _ _ g0 W.heap.size hrow hHi hrow2 hHi2 bg0 bz0 bl0 bs0 bg1 bz1 bl1 bs1 bn hS hs hC
             rw [hops.out, hQ.out, ha.out] at h
             try simp only [Act.put, y1, y2, y3, y4, y5, y6] at h
             exact h
          have L0_00 : Hid (∀ (W : World) (lo lo2 : Nat), (RdSS W lo Hb Ab n0 (rrBool l0)) → (Hb ≤ W.heap.size) → (Rd W lo2 Hy 2 Ay n4 (rRound l4)) → (Hy ≤ W.heap.size) → (Box W (w.heap.size) [.int .i64 x1_0, .int .i64 x1_1] ∧ Box W (w.heap.size + 1) [.int .i64 x2_0, .int .i64 x2_1, .int .i64 x2_2, .int .i64 x2_3, .int .i64 x2_4] ∧ Box W (w.heap.size + 2) [.int .i64 x3_0, .int .i64 x3_1, .int .i64 x3_2, .int .i64 x3_3, .int .i64 x3_4]) → (w10.heap.size ≤ W.heap.size) → (Below w10.heap.size w10 W) → wpAnyH Try.prog .any ops' Q' (fun W : World => Box W (w.heap.size) [.int .i64 x1_0, .int .i64 x1_1] ∧ Box W (w.heap.size + 1) [.int .i64 x2_0, .int .i64 x2_1, .int .i64 x2_2, .int .i64 x2_3, .int .i64 x2_4] ∧ Box W (w.heap.size + 2) [.int .i64 x3_0, .int .i64 x3_1, .int .i64 x3_2, .int .i64 x3_3, .int .i64 x3_4]) 15 #[true, true, false, true, false, true, false, true, false, false, false, false, false, false, false, false, false, false, false, false] a' W) := by
           refine hide ?_
           intro W lo lo2 hrow hHi hrow2 hHi2 hS hs hC
           rw [hops.out, hQ.out, ha.out]
           try simp only [Act.put, y1, y2, y3, y4, y5, y6]
           have hq : w.heap.size + 3 ≤ W.heap.size := Nat.le_trans hp hs
           refine wpAnyH_ready (rs := [2, 14, 15]) (by kernel_rfl) (by simp) ?_
           refine AllReadyH.cons rfl (fun K hK => ?_) (AllReadyH.cons rfl (fun K hK => ?_) (AllReadyH.cons rfl (fun K hK => ?_) (AllReadyH.nil)))
           · go_simp
             refine (toRules_any x1_0 x1_1 _).mono ?_
             rintro e V1 ⟨rfl, hb⟩
             replace hrow := hrow.below hb hHi
             replace hHi := Nat.le_trans hHi hb.size
             replace hrow2 := hrow2.below hb hHi2
             replace hHi2 := Nat.le_trans hHi2 hb.size
             replace hS := hSb _ _ hq hb hS
             replace hC := hC.trans (hb.mono hs)
             replace hs := Nat.le_trans hs hb.size
             clear hb
             refine hK.out _ _ hS (fun hHeld => ?_)
             clear hK K
             try simp only [Act.put, y1, y2, y3, y4, y5, y6]
             clear hHeld
             have h := L1_00.out V1 _ _ hrow hHi hrow2 hHi2 hS hs hC
             rw [hops.out, hQ.out, ha.out] at h
             try simp only [Act.put, y1, y2, y3, y4, y5, y6] at h
             exact h
           · go_simp
             obtain ⟨V1, hN⟩ : ∃ V : World, V = World.alloc W (.cells #[.int .i64 0, .int .i64 0, .int .i64 0, .int .i64 0, .int .i64 0] 50) := ⟨_, rfl⟩
             rw [← hN]
             have hb : Below W.heap.size W V1 := by rw [hN]; exact (Below.refl _ _).alloc (Nat.le_refl _) _
             have bg0 : Box V1 W.heap.size [.int .i64 0, .int .i64 0, .int .i64 0, .int .i64 0, .int .i64 0] := by rw [hN]; exact box_new W #[.int .i64 0, .int .i64 0, .int .i64 0, .int .i64 0, .int .i64 0] 50
             have bz0 : Fz V1 W.heap.size := by rw [hN]; exact fz_at W #[.int .i64 0, .int .i64 0, .int .i64 0, .int .i64 0, .int .i64 0] 50 _ rfl
             have bl0 : W.heap.size < V1.heap.size := by rw [hN]; simp
             have bs0 : w10.heap.size ≤ W.heap.size := hs
             clear hN
             replace hrow := hrow.below hb hHi
             replace hHi := Nat.le_trans hHi hb.size
             replace hrow2 := hrow2.below hb hHi2
             replace hHi2 := Nat.le_trans hHi2 hb.size
             replace hS := hSb _ _ hq hb hS
             replace hC := hC.trans (hb.mono hs)
             replace hs := Nat.le_trans hs hb.size
             clear hb
             refine hK.out _ _ hS (fun hHeld => ?_)
             clear hK K
             try simp only [Act.put, y1, y2, y3, y4, y5, y6]
             clear hHeld
             have h := L0_10.out V1 _ _ W.heap.size hrow hHi hrow2 hHi2 bg0 bz0 bl0 bs0 hS hs hC
             rw [hops.out, hQ.out, ha.out] at h
             try simp only [Act.put, y1, y2, y3, y4, y5, y6] at h
             exact h
           · go_simp
             obtain ⟨V1, hN⟩ : ∃ V : World, V = World.alloc W (.cells #[.int .i64 0, .int .i64 0, .int .i64 0, .int .i64 0, .int .i64 0] 50) := ⟨_, rfl⟩
             rw [← hN]
             have hb : Below W.heap.size W V1 := by rw [hN]; exact (Below.refl _ _).alloc (Nat.le_refl _) _
             have bg1 : Box V1 W.heap.size [.int .i64 0, .int .i64 0, .int .i64 0, .int .i64 0, .int .i64 0] := by rw [hN]; exact box_new W #[.int .i64 0, .int .i64 0, .int .i64 0, .int .i64 0, .int .i64 0] 50
             have bz1 : Fz V1 W.heap.size := by rw [hN]; exact fz_at W #[.int .i64 0, .int .i64 0, .int .i64 0, .int .i64 0, .int .i64 0] 50 _ rfl
             have bl1 : W.heap.size < V1.heap.size := by rw [hN]; simp
             have bs1 : w10.heap.size ≤ W.heap.size := hs
             clear hN
             replace hrow := hrow.below hb hHi
             replace hHi := Nat.le_trans hHi hb.size
             replace hrow2 := hrow2.below hb hHi2
             replace hHi2 := Nat.le_trans hHi2 hb.size
             replace hS := hSb _ _ hq hb hS
             replace hC := hC.trans (hb.mono hs)
             replace hs := Nat.le_trans hs hb.size
             clear hb
             refine hK.out _ _ hS (fun hHeld => ?_)
             clear hK K
             try simp only [Act.put, y1, y2, y3, y4, y5, y6]
             clear hHeld
             have h := L0_01.out V1 _ _ W.heap.size hrow hHi hrow2 hHi2 bg1 bz1 bl1 bs1 hS hs hC
             rw [hops.out, hQ.out, ha.out] at h
             try simp only [Act.put, y1, y2, y3, y4, y5, y6] at h
             exact h
          have hC : Below w10.heap.size w10 (World.drew w10) := (Below.refl _ _).drew
          exact L0_00.out _ _ _ (hrb.below hC (show Hb ≤ w10.heap.size by omega)) (Nat.le_trans (show Hb ≤ w10.heap.size by omega) hC.size) (hry.below hC (show Hy ≤ w10.heap.size by omega)) (Nat.le_trans (show Hy ≤ w10.heap.size by omega) hC.size) hHeld hC.size hC
        case rest =>
          obtain ⟨rfl, rfl, gs18, hs18, rfl, rfl, hgs18, hhs18, _, hls18, _, hms18, hC⟩ := hcut
          rename World => w18
          have hs18 := hC.size
          replace hr0 := hr0.below hC (by omega)
          replace hr4 := hr4.below hC (by omega)
          replace hob := hob.below hC (by omega)
          replace hrb := hrb.below hC (by omega)
          replace hry := hry.below hC (by omega)
          replace hk1 := hk1.below hC (by omega)
          replace hk2 := hk2.below hC (by omega)
          replace hk3 := hk3.below hC (by omega)
          replace hgs12 := hgs12.below hC (by omega)
          replace hhs12 := hhs12.below hC (by omega)
          replace hB := hB.trans (hC.mono (by omega))
          clear hC
          have l0_0 := hgs12 0 _ rfl
          have l0_1 := hgs12 1 _ rfl
          have l0_2 := hgs12 2 _ rfl
          have l0_3 := hgs12 3 _ rfl
          have l0_4 := hgs12 4 _ rfl
          have l1_0 := hhs12 0 _ rfl
          have l1_1 := hhs12 1 _ rfl
          have l1_2 := hhs12 2 _ rfl
          have l1_3 := hhs12 3 _ rfl
          have l1_4 := hhs12 4 _ rfl
          have l2_0 := hgs18 0 _ rfl
          have l2_1 := hgs18 1 _ rfl
          have l2_2 := hgs18 2 _ rfl
          have l2_3 := hgs18 3 _ rfl
          have l2_4 := hgs18 4 _ rfl
          have l3_0 := hhs18 0 _ rfl
          have l3_1 := hhs18 1 _ rfl
          have l3_2 := hhs18 2 _ rfl
          have l3_3 := hhs18 3 _ rfl
          have l3_4 := hhs18 4 _ rfl
          go_wp2_with fail
          refine (eqControl_same _ _ _ _ _ _).mono ?_
          rintro e w19 ⟨rfl, hb⟩
          have hbb : Below w18.heap.size w18 w19 := Below.trans (by repeat (first | exact Below.refl _ _ | refine Below.drew ?_ | refine Below.alloc ?_ (by first | (simp; done) | (simp; omega)) _)) (Below.mono hb (by simp))
          clear hb
          have hs19 := hbb.size
          replace hr0 := hr0.below hbb (by omega)
          replace hr4 := hr4.below hbb (by omega)
          replace hob := hob.below hbb (by omega)
          replace hrb := hrb.below hbb (by omega)
          replace hry := hry.below hbb (by omega)
          replace hk1 := hk1.below hbb (by omega)
          replace hk2 := hk2.below hbb (by omega)
          replace hk3 := hk3.below hbb (by omega)
          replace hgs12 := hgs12.below hbb (by omega)
          replace hhs12 := hhs12.below hbb (by omega)
          replace hgs18 := hgs18.below hbb (by omega)
          replace hhs18 := hhs18.below hbb (by omega)
          replace hB := hB.trans (hbb.mono (by omega))
          clear hbb
          clear l0_0 l0_1 l0_2 l0_3 l0_4 l1_0 l1_1 l1_2 l1_3 l1_4 l2_0 l2_1 l2_2 l2_3 l2_4 l3_0 l3_1 l3_2 l3_3 l3_4
          have l0_0 := hgs12 0 _ rfl
          have l0_1 := hgs12 1 _ rfl
          have l0_2 := hgs12 2 _ rfl
          have l0_3 := hgs12 3 _ rfl
          have l0_4 := hgs12 4 _ rfl
          have l1_0 := hhs12 0 _ rfl
          have l1_1 := hhs12 1 _ rfl
          have l1_2 := hhs12 2 _ rfl
          have l1_3 := hhs12 3 _ rfl
          have l1_4 := hhs12 4 _ rfl
          have l2_0 := hgs18 0 _ rfl
          have l2_1 := hgs18 1 _ rfl
          have l2_2 := hgs18 2 _ rfl
          have l2_3 := hgs18 3 _ rfl
          have l2_4 := hgs18 4 _ rfl
          have l3_0 := hhs18 0 _ rfl
          have l3_1 := hhs18 1 _ rfl
          have l3_2 := hhs18 2 _ rfl
          have l3_3 := hhs18 3 _ rfl
          have l3_4 := hhs18 4 _ rfl
          go_wp2_with fail
          refine (eqControl_same _ _ _ _ _ _).mono ?_
          rintro e w20 ⟨rfl, hb⟩
          have hbb : Below w19.heap.size w19 w20 := Below.trans (by repeat (first | exact Below.refl _ _ | refine Below.drew ?_ | refine Below.alloc ?_ (by first | (simp; done) | (simp; omega)) _)) (Below.mono hb (by simp))
          clear hb
          have hs20 := hbb.size
          replace hr0 := hr0.below hbb (by omega)
          replace hr4 := hr4.below hbb (by omega)
          replace hob := hob.below hbb (by omega)
          replace hrb := hrb.below hbb (by omega)
          replace hry := hry.below hbb (by omega)
          replace hk1 := hk1.below hbb (by omega)
          replace hk2 := hk2.below hbb (by omega)
          replace hk3 := hk3.below hbb (by omega)
          replace hgs12 := hgs12.below hbb (by omega)
          replace hhs12 := hhs12.below hbb (by omega)
          replace hgs18 := hgs18.below hbb (by omega)
          replace hhs18 := hhs18.below hbb (by omega)
          replace hB := hB.trans (hbb.mono (by omega))
          clear hbb
          clear l0_0 l0_1 l0_2 l0_3 l0_4 l1_0 l1_1 l1_2 l1_3 l1_4 l2_0 l2_1 l2_2 l2_3 l2_4 l3_0 l3_1 l3_2 l3_3 l3_4
          go_wp2_with fail
          refine (toBoolSS_any A0 n0 c0 0 w.heap.size l0 hn HROW.out _ (by exact hr0) (by first | omega | (simp; omega))).mono ?_
          rintro e w21 ⟨vz, rfl, hoz, hb⟩
          have hbb : Below w20.heap.size w20 w21 := Below.trans (by repeat (first | exact Below.refl _ _ | refine Below.drew ?_ | refine Below.alloc ?_ (by first | (simp; done) | (simp; omega)) _)) (Below.mono hb (by simp))
          clear hb
          have hs21 := hbb.size
          replace hr0 := hr0.below hbb (by omega)
          replace hr4 := hr4.below hbb (by omega)
          replace hob := hob.below hbb (by omega)
          replace hrb := hrb.below hbb (by omega)
          replace hry := hry.below hbb (by omega)
          replace hk1 := hk1.below hbb (by omega)
          replace hk2 := hk2.below hbb (by omega)
          replace hk3 := hk3.below hbb (by omega)
          replace hgs12 := hgs12.below hbb (by omega)
          replace hhs12 := hhs12.below hbb (by omega)
          replace hgs18 := hgs18.below hbb (by omega)
          replace hhs18 := hhs18.below hbb (by omega)
          replace hB := hB.trans (hbb.mono (by omega))
          clear hbb
          obtain ⟨Az, cz, rfl, _, _, hrz⟩ := hoz.rd; obtain ⟨Hz, hHz, hoz, hrz⟩ : ∃ H, H ≤ w21.heap.size ∧ OwnSS w21 _ H _ _ _ _ _ ∧ RdSS w21 _ H _ _ _ := ⟨_, Nat.le_refl _, hoz, hrz⟩
          go_wp2_with fail
          refine (eqBoolSS_same Ab Az n0 cb cz _ _ _ _ l0 hn HROW.out _ hrb hrz (by omega) (by omega)).mono ?_
          rintro e w22 ⟨rfl, hb⟩
          have hbb : Below w21.heap.size w21 w22 := Below.trans (by repeat (first | exact Below.refl _ _ | refine Below.drew ?_ | refine Below.alloc ?_ (by first | (simp; done) | (simp; omega)) _)) (Below.mono hb (by simp))
          clear hb
          have hs22 := hbb.size
          replace hr0 := hr0.below hbb (by omega)
          replace hr4 := hr4.below hbb (by omega)
          replace hob := hob.below hbb (by omega)
          replace hrb := hrb.below hbb (by omega)
          replace hry := hry.below hbb (by omega)
          replace hoz := hoz.below hbb (by omega)
          replace hrz := hrz.below hbb (by omega)
          replace hk1 := hk1.below hbb (by omega)
          replace hk2 := hk2.below hbb (by omega)
          replace hk3 := hk3.below hbb (by omega)
          replace hgs12 := hgs12.below hbb (by omega)
          replace hhs12 := hhs12.below hbb (by omega)
          replace hgs18 := hgs18.below hbb (by omega)
          replace hhs18 := hhs18.below hbb (by omega)
          replace hB := hB.trans (hbb.mono (by omega))
          clear hbb
          go_wp2_with fail
          refine (toRoundS_any A4 n4 c4 _ w.heap.size l4 hn4 _ hl4 hr4 (by omega)).mono ?_
          rintro e w23 ⟨vu, rfl, hou, hb⟩
          have hbb : Below w22.heap.size w22 w23 := Below.trans (by repeat (first | exact Below.refl _ _ | refine Below.drew ?_ | refine Below.alloc ?_ (by first | (simp; done) | (simp; omega)) _)) (Below.mono hb (by simp))
          clear hb
          have hs23 := hbb.size
          replace hr0 := hr0.below hbb (by omega)
          replace hr4 := hr4.below hbb (by omega)
          replace hob := hob.below hbb (by omega)
          replace hrb := hrb.below hbb (by omega)
          replace hry := hry.below hbb (by omega)
          replace hoz := hoz.below hbb (by omega)
          replace hrz := hrz.below hbb (by omega)
          replace hk1 := hk1.below hbb (by omega)
          replace hk2 := hk2.below hbb (by omega)
          replace hk3 := hk3.below hbb (by omega)
          replace hgs12 := hgs12.below hbb (by omega)
          replace hhs12 := hhs12.below hbb (by omega)
          replace hgs18 := hgs18.below hbb (by omega)
          replace hhs18 := hhs18.below hbb (by omega)
          replace hB := hB.trans (hbb.mono (by omega))
          clear hbb
          obtain ⟨Au, cu, rfl, _, _, hru⟩ := hou.rd; obtain ⟨Hu, hHu, hru⟩ : ∃ H, H ≤ w23.heap.size ∧ Rd w23 _ H 2 _ _ _ := ⟨_, Nat.le_refl _, hru⟩
          go_wp2_with fail
          refine (eqRoundS_same Ay Au n4 cy cu _ _ _ _ l4 hn4 _ hl4 hry hru (by omega) (by omega)).mono ?_
          rintro e w24 ⟨rfl, hb⟩
          have hbb : Below w23.heap.size w23 w24 := Below.trans (by repeat (first | exact Below.refl _ _ | refine Below.drew ?_ | refine Below.alloc ?_ (by first | (simp; done) | (simp; omega)) _)) (Below.mono hb (by simp))
          clear hb
          have hs24 := hbb.size
          replace hr0 := hr0.below hbb (by omega)
          replace hr4 := hr4.below hbb (by omega)
          replace hob := hob.below hbb (by omega)
          replace hrb := hrb.below hbb (by omega)
          replace hry := hry.below hbb (by omega)
          replace hoz := hoz.below hbb (by omega)
          replace hrz := hrz.below hbb (by omega)
          replace hru := hru.below hbb (by omega)
          replace hk1 := hk1.below hbb (by omega)
          replace hk2 := hk2.below hbb (by omega)
          replace hk3 := hk3.below hbb (by omega)
          replace hgs12 := hgs12.below hbb (by omega)
          replace hhs12 := hhs12.below hbb (by omega)
          replace hgs18 := hgs18.below hbb (by omega)
          replace hhs18 := hhs18.below hbb (by omega)
          replace hB := hB.trans (hbb.mono (by omega))
          clear hbb
          go_wp2_with fail
          go_ret
          exact ⟨rfl, hB⟩
    · skip
      clear hw0 hw4
      have HB0 : Below w.heap.size w (((w.alloc (.cells #[.int .i64 x1_0, .int .i64 x1_1] 45)).alloc (.cells #[.int .i64 x2_0, .int .i64 x2_1, .int .i64 x2_2, .int .i64 x2_3, .int .i64 x2_4] 47)).alloc (.cells #[.int .i64 x3_0, .int .i64 x3_1, .int .i64 x3_2, .int .i64 x3_3, .int .i64 x3_4] 47)) := (by repeat (first | exact Below.refl _ _ | refine Below.drew ?_ | refine Below.alloc ?_ (by first | (simp; done) | (simp; omega)) _))
      have HR0 := hr0.below HB0 (Nat.le_refl _)
      go_enter Try.func11, Try.ntmps11
      go_wp2_with fail
      refine (szBoolSS_ok A0 n0 c0 0 w.heap.size l0 _ hq (by omega) _ HR0).mono ?_
      rintro e w' ⟨rfl, rfl⟩
      go_wp2_with fail
      refine (szRoundS_big A4 n4 c4 _ (by omega) (by omega) (by omega) hm4 _).mono ?_
      rintro e w' ⟨rfl, rfl⟩
      go_wp2_with fail
      go_ret
      exact ⟨rfl, HB0⟩
  · skip
    clear hw0 hw4
    have HB0 : Below w.heap.size w (((w.alloc (.cells #[.int .i64 x1_0, .int .i64 x1_1] 45)).alloc (.cells #[.int .i64 x2_0, .int .i64 x2_1, .int .i64 x2_2, .int .i64 x2_3, .int .i64 x2_4] 47)).alloc (.cells #[.int .i64 x3_0, .int .i64 x3_1, .int .i64 x3_2, .int .i64 x3_3, .int .i64 x3_4] 47)) := (by repeat (first | exact Below.refl _ _ | refine Below.drew ?_ | refine Below.alloc ?_ (by first | (simp; done) | (simp; omega)) _))
    have HR0 := hr0.below HB0 (Nat.le_refl _)
    go_enter Try.func11, Try.ntmps11
    go_wp2_with fail
    refine (szBoolSS_big A0 n0 c0 0 w.heap.size l0 _ (by omega) (by omega) (by omega) hm0 _ HR0).mono ?_
    rintro e w' ⟨rfl, rfl⟩
    go_wp2_with fail
    go_ret
    exact ⟨rfl, HB0⟩

set_option maxRecDepth 100000 in
theorem lifted (os : Os) (started : os.Started) (H : Type) (enc : TypeId × Value → H) :
    ReturnsInHanded {} Try.checked os 11 .any (Rows.fnExactRunRoundsSpec.pre6 enc Try.prog Try.f11 Rows.fnExactRunRoundsRow.domain false) (Rows.fnExactRunRoundsSpec.post enc Try.prog Try.f11 false true false false) := by
  refine returnsInHanded_of_change (C := Try.checked) own started (by kernel_rfl) Try.func11
    (ChangeSpec.witness6 (enc := enc) (C := Try.checked) false ⟨#[], #[.slice none 0 0, .agg #[.int .i64 0, .int .i64 0], .agg #[.int .i64 0, .int .i64 0, .int .i64 0, .int .i64 0, .int .i64 0], .agg #[.int .i64 0, .int .i64 0, .int .i64 0, .int .i64 0, .int .i64 0], .slice none 0 0], []⟩ 8 (by kernel_rfl) (by kernel_rfl) (by kernel_rfl) (by kernel_rfl)) ?_
  intro W base args ds gs before hval0 hW hcnd _
  have hval : ∀ (j : Nat) t v, Try.f11.params[j]? = some t → args[j]? = some v → Value.okWide Try.prog W .any base t v := hval0
  have hW' := hW
  obtain ⟨p, q, hA0, hV, rfl, hfz, hnd⟩ := hW
  have hA : DataW.TrodAll enc Try.prog W 0 (fun _ => true) true Try.f11.params.toList args.toList ds p := hA0
  rw [Try.params11] at hA hval
  obtain ⟨v0, vs0, d0, ds0, p0, q0, hargs, rfl, rfl, h0, r0⟩ := trodAll_cons hA
  obtain ⟨v1, vs1, d1, ds1, p1, q1, rfl, rfl, rfl, h1, r1⟩ := trodAll_cons r0
  obtain ⟨v2, vs2, d2, ds2, p2, q2, rfl, rfl, rfl, h2, r2⟩ := trodAll_cons r1
  obtain ⟨v3, vs3, d3, ds3, p3, q3, rfl, rfl, rfl, h3, r3⟩ := trodAll_cons r2
  obtain ⟨v4, vs4, d4, ds4, p4, q4, rfl, rfl, rfl, h4, r4⟩ := trodAll_cons r3
  obtain ⟨rfl, rfl, rfl⟩ := trodAll_nil r4
  obtain rfl : args = #[v0, v1, v2, v3, v4] := by cases args; simp_all
  obtain ⟨rfl, rfl⟩ := trodVars_none hV
  obtain ⟨A0, n0, c0, l0, rfl, hnc0, hcm0, hr0, hw0⟩ := open_BoolSS (hval 0 22 v0 rfl rfl) h0
  obtain ⟨l1, hl1, rfl, hw1⟩ := open_ints_struct (k := .i64) Try.underlying45 (by kernel_rfl) (by kernel_rfl) (hval 1 45 v1 rfl rfl) h1
  obtain ⟨x1_0, x1_1, rfl⟩ := list2 (show l1.length = 2 from hl1)
  obtain ⟨l2, hl2, rfl, hw2⟩ := open_ints_struct (k := .i64) Try.underlying47 (by kernel_rfl) (by kernel_rfl) (hval 2 47 v2 rfl rfl) h2
  obtain ⟨x2_0, x2_1, x2_2, x2_3, x2_4, rfl⟩ := list5 (show l2.length = 5 from hl2)
  obtain ⟨l3, hl3, rfl, hw3⟩ := open_ints_struct (k := .i64) Try.underlying47 (by kernel_rfl) (by kernel_rfl) (hval 3 47 v3 rfl rfl) h3
  obtain ⟨x3_0, x3_1, x3_2, x3_3, x3_4, rfl⟩ := list5 (show l3.length = 5 from hl3)
  obtain ⟨A4, n4, c4, l4, rfl, hnc4, hcm4, hl4, hr4, hw4⟩ := open_RoundS (hval 4 63 v4 rfl rfl) h4
  clear hA0 hval0
  refine (walk W A0 n0 c0 l0 (Nat.le_trans hnc0 hcm0) hr0 hw0 x1_0 x1_1 (hw1 x1_0 (by simp)) (hw1 x1_1 (by simp)) x2_0 x2_1 x2_2 x2_3 x2_4 (hw2 x2_0 (by simp)) (hw2 x2_1 (by simp)) (hw2 x2_2 (by simp)) (hw2 x2_3 (by simp)) (hw2 x2_4 (by simp)) x3_0 x3_1 x3_2 x3_3 x3_4 (hw3 x3_0 (by simp)) (hw3 x3_1 (by simp)) (hw3 x3_2 (by simp)) (hw3 x3_3 (by simp)) (hw3 x3_4 (by simp)) A4 n4 c4 l4 hl4 (Nat.le_trans hnc4 hcm4) hr4 hw4).mono fun e W' ⟨he, hB⟩ => ?_
  subst he
  exact ⟨_, rfl, law_post laidOut Try.underlying4 rfl (by kernel_rfl) (by kernel_rfl) hW' rfl rfl rfl hB⟩

theorem proved : Rows.FnExactRunRoundsSaid :=
  OpenClaim.holds_of_wide 11 Try.f11 rfl rfl rfl rfl rfl rfl rfl ⟨rfl, rfl, rfl, rfl, rfl⟩ rfl rfl rfl rfl rfl (by kernel_rfl) Try.func11 (joined rfl rfl rfl (by kernel_rfl))
    (of_decide_eq_true (by kernel_rfl)) (by unfold Func.isWrapper; first | (rw [if_pos (by decide +kernel)]; kernel_rfl) | (rw [if_neg (by decide +kernel)]; exact ⟨rfl, rfl⟩))
    (fun os started H enc _ => lifted os started H enc)
#print axioms proved
end fnExactRunRounds
end Go.Proofs.Ythpoapkdlcoikaa
