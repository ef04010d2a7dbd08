/-
  ControlText: the reference's and the program's. No condition but those that each theorem names.
-/
import Derived.Test.YtnbahmjimnhfbaaGreatDoorDec
import Derived.Test.YtnbahmjimnhfbaaGreatDoorControl
import Derived.IntWalk
import Derived.Deep.RegionWith
namespace Go.Proofs.YtnbahmjimnhfbaaGreatDoor
open Go.RowKit
set_option linter.unusedVariables false
set_option linter.unusedSimpArgs false

/-- The name of the mode m + 1. -/
def nmM (m : Nat) : ByteArray := match m with
  | 0 => ⟨#[100, 111, 110, 101]⟩
  | 1 => ⟨#[109, 111, 118, 101]⟩
  | 2 => ⟨#[119, 97, 105, 116]⟩
  | _ => ⟨#[115, 116, 111, 112]⟩
theorem nmM_size (m : Nat) : (nmM m).size = 4 := by
  match m with
  | 0 => rfl
  | 1 => rfl
  | 2 => rfl
  | _ + 3 => rfl
def nmV : List Value := [.string ⟨#[100, 111, 110, 101]⟩, .string ⟨#[109, 111, 118, 101]⟩, .string ⟨#[119, 97, 105, 116]⟩, .string ⟨#[115, 116, 111, 112]⟩]
theorem nmV_at (m : Nat) (h : m < 4) : nmV[m]? = some (.string (nmM m)) := by
  match m, h with
  | 0, _ => rfl
  | 1, _ => rfl
  | 2, _ => rfl
  | 3, _ => rfl
/-- The text of a controller. -/
def ctlT (a b c d e : Int) : ByteArray := if ctlOk a b c d e = true then str a ++ ⟨#[62]⟩ ++ str b ++ ⟨#[32]⟩ ++ nmM (e - 1).toNat ++ ⟨#[32]⟩ ++ str c ++ ⟨#[43]⟩ ++ str d else ⟨#[]⟩
theorem ctlT_ok {a b c d : Int} {m : Nat} (h : ctlOk a b c d ((m : Int) + 1) = true) {s1 s2 s3 s4 n : ByteArray} (h1 : str a = s1) (h2 : str b = s2) (h3 : str c = s3) (h4 : str d = s4) (h5 : nmM m = n) : ctlT a b c d ((m : Int) + 1) = s1 ++ ⟨#[62]⟩ ++ s2 ++ ⟨#[32]⟩ ++ n ++ ⟨#[32]⟩ ++ s3 ++ ⟨#[43]⟩ ++ s4 := by
  unfold ctlT
  rw [if_pos h, h1, h2, h3, h4, show ((m : Int) + 1 - 1).toNat = m by omega, h5]
theorem wpAnyH_more {P : Program} {ops : Array Oper} {Q : Exit → Act → World → Prop} {md : Region.Mode} {S S' : World → Prop} (hs : ∀ w, S' w → S w) : ∀ (fuel : Nat) (listed : Array Bool) (a : Act) (w : World), wpAnyH P md ops Q S' fuel listed a w → wpAnyH P md ops Q S fuel listed a w
  | 0, _, _, _, h => h
  | fuel + 1, _, _, _, h => ⟨h.1, fun i hi => wpOp_mono (fun a' w' h' => ⟨hs _ h'.1, wpAnyH_more hs fuel _ a' w' h'.2⟩) (h.2 i hi)⟩
theorem ctlT_ok' {a b c d e : Int} (h : ctlOk a b c d e = true) {s1 s2 s3 s4 n : ByteArray} (h1 : str a = s1) (h2 : str b = s2) (h3 : str c = s3) (h4 : str d = s4) (h5 : nmM (e - 1).toNat = n) : ctlT a b c d e = s1 ++ ⟨#[62]⟩ ++ s2 ++ ⟨#[32]⟩ ++ n ++ ⟨#[32]⟩ ++ s3 ++ ⟨#[43]⟩ ++ s4 := by
  unfold ctlT
  rw [if_pos h, h1, h2, h3, h4, h5]

set_option maxRecDepth 100000 in
set_option maxHeartbeats 2000000 in
theorem modeName_is {m : Nat} (hm : m < 4) {n : ByteArray} (hn : nmM m = n) {w : World} :
    Calls Tryz.prog 16 #[.int .i64 ((m : Int) + 1)] w fun e w' => e = .returned (.string n) ∧ Below w.heap.size w w' := by
  have HN := hide hn
  clear hn
  match m, hm with
  | 0, _ =>
    have HN2 := HN
    go_enter Tryz.func16, Tryz.ntmps16
    go_wp2
    all_goals (go_ret; exact ⟨retstr (by rw [← HN2.out]; rfl), (Below.refl _ _).alloc (Nat.le_refl _) _⟩)
  | 1, _ =>
    have HN2 := HN
    go_enter Tryz.func16, Tryz.ntmps16
    go_wp2
    all_goals (go_ret; exact ⟨retstr (by rw [← HN2.out]; rfl), (Below.refl _ _).alloc (Nat.le_refl _) _⟩)
  | 2, _ =>
    have HN2 := HN
    go_enter Tryz.func16, Tryz.ntmps16
    go_wp2
    all_goals (go_ret; exact ⟨retstr (by rw [← HN2.out]; rfl), (Below.refl _ _).alloc (Nat.le_refl _) _⟩)
  | 3, _ =>
    have HN2 := HN
    go_enter Tryz.func16, Tryz.ntmps16
    go_wp2
    all_goals (go_ret; exact ⟨retstr (by rw [← HN2.out]; rfl), (Below.refl _ _).alloc (Nat.le_refl _) _⟩)

set_option maxRecDepth 100000 in
set_option maxHeartbeats 2000000 in
theorem l18Modes_is {w : World} :
    Calls Tryz.prog 41 #[] w fun e w' => ∃ g, e = .returned (.slice (some ⟨g, 0, none⟩) 4 4) ∧ Box w' g nmV ∧ g < w'.heap.size ∧ Below w.heap.size w w' := by
  go_enter Tryz.func41, Tryz.ntmps41
  go_wp2
  go_ret
  exact ⟨_, rfl, box_new _ _ _, by simp, (Below.refl _ _).alloc (Nat.le_refl _) _⟩

set_option maxRecDepth 100000 in
set_option maxHeartbeats 2000000 in
theorem specControlText_any (a b c d e : Int) (w : World) :
    Calls Tryz.prog 19 #[.agg #[.int .i64 a, .int .i64 b, .int .i64 c, .int .i64 d, .int .i64 e]] w fun e' w' => e' = .returned (.string (ctlT a b c d e)) ∧ Below w.heap.size w w' := by
  by_cases e1 : ctlOk a b c d e = true
  · skip
    obtain ⟨ha, hb', hc, hd, he⟩ := ctlOk_true e1
    obtain ⟨m, rfl⟩ : ∃ m : Nat, e = (m : Int) + 1 := ⟨(e - 1).toNat, by omega⟩
    have hm : m < 4 := by omega
    have E := hide e1
    have hwr : IntKind.i64.wrap ((m : Int) + 1 - 1) = (m : Int) := by rw [show (m : Int) + 1 - 1 = (m : Int) by omega]; exact IntWalk.i64_in _ (by omega)
    have hwr2 : IntKind.i64.wrap (m : Int) = (m : Int) := IntWalk.i64_in _ (by omega)
    have hmi0 : (0 : Int) ≤ (m : Int) := by omega
    have hmi4 : (m : Int) < 4 := by omega
    obtain ⟨s0, hs0⟩ : ∃ s, str a = s := ⟨_, rfl⟩
    have z0 : s0.size ≤ 21 := by rw [← hs0]; exact str_size (by omega) (by omega)
    have HS0 := hide hs0
    obtain ⟨s1, hs1⟩ : ∃ s, str b = s := ⟨_, rfl⟩
    have z1 : s1.size ≤ 21 := by rw [← hs1]; exact str_size (by omega) (by omega)
    have HS1 := hide hs1
    obtain ⟨s2, hs2⟩ : ∃ s, str c = s := ⟨_, rfl⟩
    have z2 : s2.size ≤ 21 := by rw [← hs2]; exact str_size (by omega) (by omega)
    have HS2 := hide hs2
    obtain ⟨s3, hs3⟩ : ∃ s, str d = s := ⟨_, rfl⟩
    have z3 : s3.size ≤ 21 := by rw [← hs3]; exact str_size (by omega) (by omega)
    have HS3 := hide hs3
    obtain ⟨sn, hsn⟩ : ∃ s, nmM m = s := ⟨_, rfl⟩
    have zn : sn.size = 4 := by rw [← hsn]; exact nmM_size _
    have zn2 : sn.size ≤ 4 := by omega
    clear zn
    have HSN := hide hsn
    have ET := hide (ctlT_ok e1 hs0 hs1 hs2 hs3 hsn)
    clear hs0 hs1 hs2 hs3 hsn e1
    go_enter Tryz.func19, Tryz.ntmps19
    go_wp2_with fail
    obtain ⟨W0, hW0⟩ : ∃ W0 : World, W0 = (w.alloc (.cells #[.int .i64 a, .int .i64 b, .int .i64 c, .int .i64 d, .int .i64 ((m : Int) + 1)] 28)) := ⟨_, rfl⟩
    rw [← hW0]
    have kc : Box W0 (w.heap.size) [.int .i64 a, .int .i64 b, .int .i64 c, .int .i64 d, .int .i64 ((m : Int) + 1)] := by rw [hW0]; exact box_at _ _ _ _ (by simp)
    have hB : Below w.heap.size w W0 := by rw [hW0]; exact (by repeat (first | exact Below.refl _ _ | refine Below.drew ?_ | refine Below.alloc ?_ (by first | (simp; done) | (simp; omega)) _))
    have hs0 : w.heap.size + 1 ≤ W0.heap.size := by rw [hW0]; first | (simp; done) | (simp; omega)
    clear hW0
    have nkc : w.heap.size < W0.heap.size := by omega
    have lkc_0 := kc 0 _ rfl
    have lkc_1 := kc 1 _ rfl
    have lkc_2 := kc 2 _ rfl
    have lkc_3 := kc 3 _ rfl
    have lkc_4 := kc 4 _ rfl
    go_wp2_with fail
    clear nkc lkc_0 lkc_1 lkc_2 lkc_3 lkc_4
    refine (l18Ok_any a b c d ((m : Int) + 1) _).mono ?_
    rintro e w1 ⟨rfl, hb⟩
    have hbb : Below W0.heap.size W0 w1 := Below.trans (by repeat (first | exact Below.refl _ _ | refine Below.drew ?_ | refine Below.alloc ?_ (by first | (simp; done) | (simp; omega)) _)) (Below.mono hb (by simp))
    clear hb
    have hs1 := hbb.size
    replace kc := kc.below hbb (by omega)
    replace hB := hB.trans (hbb.mono (by omega))
    clear hbb
    rw [E.out]
    go_wp2_with fail
    obtain ⟨t1, ht1⟩ : ∃ t, s0 ++ ⟨#[62]⟩ = t := ⟨_, rfl⟩
    have zt1 : t1.size ≤ 22 := by rw [← ht1, ByteArray.size_append]; have e1 : (⟨#[62]⟩ : ByteArray).size = 1 := rfl; omega
    obtain ⟨t2, ht2⟩ : ∃ t, t1 ++ s1 = t := ⟨_, rfl⟩
    have zt2 : t2.size ≤ 43 := by rw [← ht2, ByteArray.size_append]; omega
    obtain ⟨t3, ht3⟩ : ∃ t, t2 ++ ⟨#[32]⟩ = t := ⟨_, rfl⟩
    have zt3 : t3.size ≤ 44 := by rw [← ht3, ByteArray.size_append]; have e1 : (⟨#[32]⟩ : ByteArray).size = 1 := rfl; omega
    obtain ⟨t4, ht4⟩ : ∃ t, t3 ++ sn = t := ⟨_, rfl⟩
    have zt4 : t4.size ≤ 48 := by rw [← ht4, ByteArray.size_append]; omega
    obtain ⟨t5, ht5⟩ : ∃ t, t4 ++ ⟨#[32]⟩ = t := ⟨_, rfl⟩
    have zt5 : t5.size ≤ 49 := by rw [← ht5, ByteArray.size_append]; have e1 : (⟨#[32]⟩ : ByteArray).size = 1 := rfl; omega
    obtain ⟨t6, ht6⟩ : ∃ t, t5 ++ s2 = t := ⟨_, rfl⟩
    have zt6 : t6.size ≤ 70 := by rw [← ht6, ByteArray.size_append]; omega
    obtain ⟨t7, ht7⟩ : ∃ t, t6 ++ ⟨#[43]⟩ = t := ⟨_, rfl⟩
    have zt7 : t7.size ≤ 71 := by rw [← ht7, ByteArray.size_append]; have e1 : (⟨#[43]⟩ : ByteArray).size = 1 := rfl; omega
    obtain ⟨t8, ht8⟩ : ∃ t, t7 ++ s3 = t := ⟨_, rfl⟩
    have zt8 : t8.size ≤ 92 := by rw [← ht8, ByteArray.size_append]; omega
    have ET2 : Hid (ctlT a b c d ((m : Int) + 1) = t8) := hide (by rw [ET.out, ht1, ht2, ht3, ht4, ht5, ht6, ht7, ht8])
    have nz1 : ¬ 9223372036854775807 ≤ s0.size := by omega
    have ny1 : ¬ 9223372036854775807 < s0.size + 1 := by omega
    have nz2 : ¬ 9223372036854775807 < t1.size + s1.size := by omega
    have nz3 : ¬ 9223372036854775807 ≤ t2.size := by omega
    have ny3 : ¬ 9223372036854775807 < t2.size + 1 := by omega
    have nz4 : ¬ 9223372036854775807 < t3.size + sn.size := by omega
    have nz5 : ¬ 9223372036854775807 ≤ t4.size := by omega
    have ny5 : ¬ 9223372036854775807 < t4.size + 1 := by omega
    have nz6 : ¬ 9223372036854775807 < t5.size + s2.size := by omega
    have nz7 : ¬ 9223372036854775807 ≤ t6.size := by omega
    have ny7 : ¬ 9223372036854775807 < t6.size + 1 := by omega
    have nz8 : ¬ 9223372036854775807 < t7.size + s3.size := by omega
    clear ET zt1 zt2 zt3 zt4 zt5 zt6 zt7 zt8
    have HSTART : (fun W : World => W.cell? ⟨w.heap.size, 0, none⟩ = some (.int .i64 a) ∧ W.cell? ⟨w.heap.size, 1, none⟩ = some (.int .i64 b) ∧ W.cell? ⟨w.heap.size, 2, none⟩ = some (.int .i64 c) ∧ W.cell? ⟨w.heap.size, 3, none⟩ = some (.int .i64 d) ∧ W.cell? ⟨w.heap.size, 4, none⟩ = some (.int .i64 ((m : Int) + 1))) (World.drew w1) := ⟨kc 0 _ rfl, kc 1 _ rfl, kc 2 _ rfl, kc 3 _ rfl, kc 4 _ rfl⟩
    refine wp_region_held_drew (S := fun W : World => W.cell? ⟨w.heap.size, 0, none⟩ = some (.int .i64 a) ∧ W.cell? ⟨w.heap.size, 1, none⟩ = some (.int .i64 b) ∧ W.cell? ⟨w.heap.size, 2, none⟩ = some (.int .i64 c) ∧ W.cell? ⟨w.heap.size, 3, none⟩ = some (.int .i64 d) ∧ W.cell? ⟨w.heap.size, 4, none⟩ = some (.int .i64 ((m : Int) + 1))) (by kernel_rfl) (HSTART) (fun hHeld => ?_)
    try simp only [Array.replicate, List.replicate]
    refine wpAnyH_take (i := 0) (v := ?_) rfl (by kernel_rfl) (by kernel_rfl) (by kernel_rfl) (fun _ _ _ h => h) (Or.inl ⟨by rfl, ?_⟩) (by assumption) ?_
    rotate_left
    · (intro w hSw; (try dsimp only at hSw); go_simp; try (with_reducible rfl))
    try simp only [Act.put, List.getElem_toArray, List.getElem_cons_succ, List.getElem_cons_zero, List.setIfInBounds_toArray, List.set_cons_succ, List.set_cons_zero]
    refine wpAnyH_take (i := 1) (v := ?_) rfl (by kernel_rfl) (by kernel_rfl) (by kernel_rfl) (fun _ _ _ h => h) (Or.inl ⟨by rfl, ?_⟩) (by assumption) ?_
    rotate_left
    · (intro w hSw; (try dsimp only at hSw); go_simp; try (with_reducible rfl))
    try simp only [Act.put, List.getElem_toArray, List.getElem_cons_succ, List.getElem_cons_zero, List.setIfInBounds_toArray, List.set_cons_succ, List.set_cons_zero]
    refine wpAnyH_take (i := 4) (v := ?_) rfl (by kernel_rfl) (by kernel_rfl) (by kernel_rfl) (fun _ _ _ h => h) (Or.inl ⟨by rfl, ?_⟩) (by assumption) ?_
    rotate_left
    · (intro w hSw; (try dsimp only at hSw); go_simp; try (with_reducible rfl))
    try simp only [Act.put, List.getElem_toArray, List.getElem_cons_succ, List.getElem_cons_zero, List.setIfInBounds_toArray, List.set_cons_succ, List.set_cons_zero]
    refine wpAnyH_take (i := 5) (v := ?_) rfl (by kernel_rfl) (by kernel_rfl) (by kernel_rfl) (fun _ _ _ h => h) (Or.inl ⟨by rfl, ?_⟩) (by assumption) ?_
    rotate_left
    · (intro w hSw; (try dsimp only at hSw); go_simp; try (with_reducible rfl))
    try simp only [Act.put, List.getElem_toArray, List.getElem_cons_succ, List.getElem_cons_zero, List.setIfInBounds_toArray, List.set_cons_succ, List.set_cons_zero]
    refine wpAnyH_take (i := 10) (v := ?_) rfl (by kernel_rfl) (by kernel_rfl) (by kernel_rfl) (fun _ _ _ h => h) (Or.inl ⟨by rfl, ?_⟩) (by assumption) ?_
    rotate_left
    · (intro w hSw; (try dsimp only at hSw); go_simp; try (with_reducible rfl))
    try simp only [Act.put, List.getElem_toArray, List.getElem_cons_succ, List.getElem_cons_zero, List.setIfInBounds_toArray, List.set_cons_succ, List.set_cons_zero]
    refine wpAnyH_take (i := 11) (v := ?_) rfl (by kernel_rfl) (by kernel_rfl) (by kernel_rfl) (fun _ _ _ h => h) (Or.inl ⟨by rfl, ?_⟩) (by assumption) ?_
    rotate_left
    · (intro w hSw; (try dsimp only at hSw); go_simp; try (with_reducible rfl))
    try simp only [Act.put, List.getElem_toArray, List.getElem_cons_succ, List.getElem_cons_zero, List.setIfInBounds_toArray, List.set_cons_succ, List.set_cons_zero]
    refine wpAnyH_take (i := 12) (v := ?_) rfl (by kernel_rfl) (by kernel_rfl) (by kernel_rfl) (fun _ _ _ h => h) (Or.inl ⟨by rfl, ?_⟩) (by assumption) ?_
    rotate_left
    · (intro w hSw; (try dsimp only at hSw); go_simp; try (with_reducible rfl))
    try simp only [Act.put, List.getElem_toArray, List.getElem_cons_succ, List.getElem_cons_zero, List.setIfInBounds_toArray, List.set_cons_succ, List.set_cons_zero]
    refine wpAnyH_take (i := 17) (v := ?_) rfl (by kernel_rfl) (by kernel_rfl) (by kernel_rfl) (fun _ _ _ h => h) (Or.inl ⟨by rfl, ?_⟩) (by assumption) ?_
    rotate_left
    · (intro w hSw; (try dsimp only at hSw); go_simp; try (with_reducible rfl))
    try simp only [Act.put, List.getElem_toArray, List.getElem_cons_succ, List.getElem_cons_zero, List.setIfInBounds_toArray, List.set_cons_succ, List.set_cons_zero]
    refine wpAnyH_take (i := 18) (v := ?_) rfl (by kernel_rfl) (by kernel_rfl) (by kernel_rfl) (fun _ _ _ h => h) (Or.inl ⟨by rfl, ?_⟩) (by assumption) ?_
    rotate_left
    · (intro w hSw; (try dsimp only at hSw); go_simp; try (with_reducible rfl))
    try simp only [Act.put, List.getElem_toArray, List.getElem_cons_succ, List.getElem_cons_zero, List.setIfInBounds_toArray, List.set_cons_succ, List.set_cons_zero]
    refine wpAnyH_take (i := 22) (v := ?_) rfl (by kernel_rfl) (by kernel_rfl) (by kernel_rfl) (fun _ _ _ h => h) (Or.inl ⟨by rfl, ?_⟩) (by assumption) ?_
    rotate_left
    · (intro w hSw; (try dsimp only at hSw); go_simp; try (with_reducible rfl))
    try simp only [Act.put, List.getElem_toArray, List.getElem_cons_succ, List.getElem_cons_zero, List.setIfInBounds_toArray, List.set_cons_succ, List.set_cons_zero]
    refine wpAnyH_take (i := 23) (v := ?_) rfl (by kernel_rfl) (by kernel_rfl) (by kernel_rfl) (fun _ _ _ h => h) (Or.inl ⟨by rfl, ?_⟩) (by assumption) ?_
    rotate_left
    · (intro w hSw; (try dsimp only at hSw); go_simp; try (with_reducible rfl))
    try simp only [Act.put, List.getElem_toArray, List.getElem_cons_succ, List.getElem_cons_zero, List.setIfInBounds_toArray, List.set_cons_succ, List.set_cons_zero]
    refine wpAnyH_ready (rs := [2]) (by kernel_rfl) (by simp) ?_
    refine AllReadyH.cons rfl (fun K hK => ?_) AllReadyH.nil
    go_simp
    (go_at_call 44; with_reducible refine (l01Dec_is (n := a) (by omega) (by omega) HS0.out).mono ?_)
    rintro e w2 ⟨rfl, hb⟩
    have hbb : Below w1.heap.size w1 w2 := Below.trans (by repeat (first | exact Below.refl _ _ | refine Below.drew ?_ | refine Below.alloc ?_ (by first | (simp; done) | (simp; omega)) _)) (Below.mono hb (by simp))
    clear hb
    have hs2 := hbb.size
    replace kc := kc.below hbb (by omega)
    replace hB := hB.trans (hbb.mono (by omega))
    clear hbb
    refine hK.out _ _ (⟨kc 0 _ rfl, kc 1 _ rfl, kc 2 _ rfl, kc 3 _ rfl, kc 4 _ rfl⟩) (fun hHeld2 => ?_)
    clear hK K hHeld
    have hHeld := hHeld2
    clear hHeld2
    try simp only [Act.put, List.getElem_toArray, List.getElem_cons_succ, List.getElem_cons_zero, List.setIfInBounds_toArray, List.set_cons_succ, List.set_cons_zero]
    refine wpAnyH_take (i := 3) (v := ?_) rfl (by kernel_rfl) (by kernel_rfl) (by kernel_rfl) (fun _ _ _ h => h) (Or.inl ⟨by rfl, ?_⟩) (by assumption) ?_
    rotate_left
    · (intro w hSw; (try dsimp only at hSw); go_simp; try (with_reducible rfl))
    try simp only [Act.put, List.getElem_toArray, List.getElem_cons_succ, List.getElem_cons_zero, List.setIfInBounds_toArray, List.set_cons_succ, List.set_cons_zero]
    refine wpAnyH_ready (rs := [6]) (by kernel_rfl) (by simp) ?_
    refine AllReadyH.cons rfl (fun K hK => ?_) AllReadyH.nil
    go_simp
    (go_at_call 44; with_reducible refine (l01Dec_is (n := b) (by omega) (by omega) HS1.out).mono ?_)
    rintro e w3 ⟨rfl, hb⟩
    have hbb : Below w2.heap.size w2 w3 := Below.trans (by repeat (first | exact Below.refl _ _ | refine Below.drew ?_ | refine Below.alloc ?_ (by first | (simp; done) | (simp; omega)) _)) (Below.mono hb (by simp))
    clear hb
    have hs3 := hbb.size
    replace kc := kc.below hbb (by omega)
    replace hB := hB.trans (hbb.mono (by omega))
    clear hbb
    refine hK.out _ _ (⟨kc 0 _ rfl, kc 1 _ rfl, kc 2 _ rfl, kc 3 _ rfl, kc 4 _ rfl⟩) (fun hHeld2 => ?_)
    clear hK K hHeld
    have hHeld := hHeld2
    clear hHeld2
    try simp only [Act.put, List.getElem_toArray, List.getElem_cons_succ, List.getElem_cons_zero, List.setIfInBounds_toArray, List.set_cons_succ, List.set_cons_zero]
    refine wpAnyH_take (i := 7) (v := ?_) rfl (by kernel_rfl) (by kernel_rfl) (by kernel_rfl) (fun _ _ _ h => h) (Or.inl ⟨by rfl, ?_⟩) (by assumption) ?_
    rotate_left
    · (intro w hSw; (try dsimp only at hSw); go_simp; try (with_reducible rfl))
    try simp only [Act.put, List.getElem_toArray, List.getElem_cons_succ, List.getElem_cons_zero, List.setIfInBounds_toArray, List.set_cons_succ, List.set_cons_zero]
    refine wpAnyH_take (i := 8) (v := ?_) rfl (by kernel_rfl) (by kernel_rfl) (by kernel_rfl) (fun _ _ _ h => h) (Or.inl ⟨by rfl, ?_⟩) (by assumption) ?_
    rotate_left
    · (intro w hSw; (try dsimp only at hSw); go_simp; try (with_reducible rfl))
    try simp only [Act.put, List.getElem_toArray, List.getElem_cons_succ, List.getElem_cons_zero, List.setIfInBounds_toArray, List.set_cons_succ, List.set_cons_zero]
    refine wpAnyH_ready (rs := [9]) (by kernel_rfl) (by simp) ?_
    refine AllReadyH.cons rfl (fun K hK => ?_) AllReadyH.nil
    go_simp
    (go_at_call 41; with_reducible refine (l18Modes_is).mono ?_)
    rintro e w4 ⟨gm, rfl, hkv, hkl2, hb⟩
    have hbb : Below w3.heap.size w3 w4 := Below.trans (by repeat (first | exact Below.refl _ _ | refine Below.drew ?_ | refine Below.alloc ?_ (by first | (simp; done) | (simp; omega)) _)) (Below.mono hb (by simp))
    clear hb
    have hs4 := hbb.size
    replace kc := kc.below hbb (by omega)
    replace hB := hB.trans (hbb.mono (by omega))
    clear hbb
    have hld : w4.cell? ⟨gm, m, none⟩ = some (.string sn) := (by have := hkv m _ (nmV_at m hm); rw [HSN.out] at this; exact this)
    refine hK.out _ _ (⟨kc 0 _ rfl, kc 1 _ rfl, kc 2 _ rfl, kc 3 _ rfl, kc 4 _ rfl⟩) (fun hHeld2 => ?_)
    clear hK K hHeld
    have hHeld := hHeld2
    clear hHeld2
    try simp only [Act.put, List.getElem_toArray, List.getElem_cons_succ, List.getElem_cons_zero, List.setIfInBounds_toArray, List.set_cons_succ, List.set_cons_zero]
    refine wpAnyH_more (S' := fun W : World => (W.cell? ⟨w.heap.size, 0, none⟩ = some (.int .i64 a) ∧ W.cell? ⟨w.heap.size, 1, none⟩ = some (.int .i64 b) ∧ W.cell? ⟨w.heap.size, 2, none⟩ = some (.int .i64 c) ∧ W.cell? ⟨w.heap.size, 3, none⟩ = some (.int .i64 d) ∧ W.cell? ⟨w.heap.size, 4, none⟩ = some (.int .i64 ((m : Int) + 1))) ∧ W.cell? ⟨gm, m, none⟩ = some (.string sn)) (fun w h => h.1) _ _ _ _ ?_
    replace hHeld := show (fun W : World => (W.cell? ⟨w.heap.size, 0, none⟩ = some (.int .i64 a) ∧ W.cell? ⟨w.heap.size, 1, none⟩ = some (.int .i64 b) ∧ W.cell? ⟨w.heap.size, 2, none⟩ = some (.int .i64 c) ∧ W.cell? ⟨w.heap.size, 3, none⟩ = some (.int .i64 d) ∧ W.cell? ⟨w.heap.size, 4, none⟩ = some (.int .i64 ((m : Int) + 1))) ∧ W.cell? ⟨gm, m, none⟩ = some (.string sn)) _ from ⟨⟨kc 0 _ rfl, kc 1 _ rfl, kc 2 _ rfl, kc 3 _ rfl, kc 4 _ rfl⟩, hld⟩
    refine wpAnyH_take (i := 13) (v := ?_) rfl (by kernel_rfl) (by kernel_rfl) (by kernel_rfl) (fun _ _ _ h => h) (Or.inl ⟨by rfl, ?_⟩) (by assumption) ?_
    rotate_left
    · (intro w hSw; (try dsimp only at hSw); go_simp; try (with_reducible rfl))
    try simp only [Act.put, List.getElem_toArray, List.getElem_cons_succ, List.getElem_cons_zero, List.setIfInBounds_toArray, List.set_cons_succ, List.set_cons_zero]
    refine wpAnyH_take (i := 14) (v := ?_) rfl (by kernel_rfl) (by kernel_rfl) (by kernel_rfl) (fun _ _ _ h => h) (Or.inl ⟨by rfl, ?_⟩) (by assumption) ?_
    rotate_left
    · (intro w hSw; (try dsimp only at hSw); go_simp; try (with_reducible rfl))
    try simp only [Act.put, List.getElem_toArray, List.getElem_cons_succ, List.getElem_cons_zero, List.setIfInBounds_toArray, List.set_cons_succ, List.set_cons_zero]
    refine wpAnyH_take (i := 15) (v := ?_) rfl (by kernel_rfl) (by kernel_rfl) (by kernel_rfl) (fun _ _ _ h => h) (Or.inl ⟨by rfl, ?_⟩) (by assumption) ?_
    rotate_left
    · (intro w hSw; (try dsimp only at hSw); go_simp; try (with_reducible rfl))
    try simp only [Act.put, List.getElem_toArray, List.getElem_cons_succ, List.getElem_cons_zero, List.setIfInBounds_toArray, List.set_cons_succ, List.set_cons_zero]
    refine wpAnyH_take (i := 16) (v := ?_) rfl (by kernel_rfl) (by kernel_rfl) (by kernel_rfl) (fun _ _ _ h => h) (Or.inl ⟨by rfl, ?_⟩) (by assumption) ?_
    rotate_left
    · (intro w hSw; (try dsimp only at hSw); go_simp; try (with_reducible rfl))
    try simp only [Act.put, List.getElem_toArray, List.getElem_cons_succ, List.getElem_cons_zero, List.setIfInBounds_toArray, List.set_cons_succ, List.set_cons_zero]
    refine wpAnyH_ready (rs := [19]) (by kernel_rfl) (by simp) ?_
    refine AllReadyH.cons rfl (fun K hK => ?_) AllReadyH.nil
    go_simp
    (go_at_call 44; with_reducible refine (l01Dec_is (n := c) (by omega) (by omega) HS2.out).mono ?_)
    rintro e w5 ⟨rfl, hb⟩
    have hbb : Below w4.heap.size w4 w5 := Below.trans (by repeat (first | exact Below.refl _ _ | refine Below.drew ?_ | refine Below.alloc ?_ (by first | (simp; done) | (simp; omega)) _)) (Below.mono hb (by simp))
    clear hb
    have hs5 := hbb.size
    replace kc := kc.below hbb (by omega)
    replace hB := hB.trans (hbb.mono (by omega))
    replace hkv := Box.below hkv hbb (by omega)
    clear hbb
    have hld : w5.cell? ⟨gm, m, none⟩ = some (.string sn) := (by have := hkv m _ (nmV_at m hm); rw [HSN.out] at this; exact this)
    refine hK.out _ _ (⟨⟨kc 0 _ rfl, kc 1 _ rfl, kc 2 _ rfl, kc 3 _ rfl, kc 4 _ rfl⟩, hld⟩) (fun hHeld2 => ?_)
    clear hK K hHeld
    have hHeld := hHeld2
    clear hHeld2
    try simp only [Act.put, List.getElem_toArray, List.getElem_cons_succ, List.getElem_cons_zero, List.setIfInBounds_toArray, List.set_cons_succ, List.set_cons_zero]
    refine wpAnyH_take (i := 20) (v := ?_) rfl (by kernel_rfl) (by kernel_rfl) (by kernel_rfl) (fun _ _ _ h => h) (Or.inl ⟨by rfl, ?_⟩) (by assumption) ?_
    rotate_left
    · (intro w hSw; (try dsimp only at hSw); go_simp; try (with_reducible rfl))
    try simp only [Act.put, List.getElem_toArray, List.getElem_cons_succ, List.getElem_cons_zero, List.setIfInBounds_toArray, List.set_cons_succ, List.set_cons_zero]
    refine wpAnyH_take (i := 21) (v := ?_) rfl (by kernel_rfl) (by kernel_rfl) (by kernel_rfl) (fun _ _ _ h => h) (Or.inl ⟨by rfl, ?_⟩) (by assumption) ?_
    rotate_left
    · (intro w hSw; (try dsimp only at hSw); go_simp; try (with_reducible rfl))
    try simp only [Act.put, List.getElem_toArray, List.getElem_cons_succ, List.getElem_cons_zero, List.setIfInBounds_toArray, List.set_cons_succ, List.set_cons_zero]
    refine wpAnyH_ready (rs := [24]) (by kernel_rfl) (by simp) ?_
    refine AllReadyH.cons rfl (fun K hK => ?_) AllReadyH.nil
    go_simp
    (go_at_call 44; with_reducible refine (l01Dec_is (n := d) (by omega) (by omega) HS3.out).mono ?_)
    rintro e w6 ⟨rfl, hb⟩
    have hbb : Below w5.heap.size w5 w6 := Below.trans (by repeat (first | exact Below.refl _ _ | refine Below.drew ?_ | refine Below.alloc ?_ (by first | (simp; done) | (simp; omega)) _)) (Below.mono hb (by simp))
    clear hb
    have hs6 := hbb.size
    replace kc := kc.below hbb (by omega)
    replace hB := hB.trans (hbb.mono (by omega))
    replace hkv := Box.below hkv hbb (by omega)
    clear hbb
    have hld : w6.cell? ⟨gm, m, none⟩ = some (.string sn) := (by have := hkv m _ (nmV_at m hm); rw [HSN.out] at this; exact this)
    refine hK.out _ _ (⟨⟨kc 0 _ rfl, kc 1 _ rfl, kc 2 _ rfl, kc 3 _ rfl, kc 4 _ rfl⟩, hld⟩) (fun hHeld2 => ?_)
    clear hK K hHeld
    have hHeld := hHeld2
    clear hHeld2
    try simp only [Act.put, List.getElem_toArray, List.getElem_cons_succ, List.getElem_cons_zero, List.setIfInBounds_toArray, List.set_cons_succ, List.set_cons_zero]
    refine wpAnyH_take (i := 25) (v := ?_) rfl (by kernel_rfl) (by kernel_rfl) (by kernel_rfl) (fun _ _ _ h => h) (Or.inl ⟨by rfl, ?_⟩) (by assumption) ?_
    rotate_left
    · (intro w hSw; (try dsimp only at hSw); go_simp; try (with_reducible rfl))
    try simp only [Act.put, List.getElem_toArray, List.getElem_cons_succ, List.getElem_cons_zero, List.setIfInBounds_toArray, List.set_cons_succ, List.set_cons_zero]
    refine wpAnyH_take (i := 26) (v := ?_) rfl (by kernel_rfl) (by kernel_rfl) (by kernel_rfl) (fun _ _ _ h => h) (Or.inl ⟨by rfl, ?_⟩) (by assumption) ?_
    rotate_left
    · (intro w hSw; (try dsimp only at hSw); go_simp; try (with_reducible rfl))
    try simp only [Act.put, List.getElem_toArray, List.getElem_cons_succ, List.getElem_cons_zero, List.setIfInBounds_toArray, List.set_cons_succ, List.set_cons_zero]
    refine wpAnyH_done (by kernel_rfl) ?_ _
    go_wp2_with fail
    go_ret
    exact ⟨retstr ET2.out.symm, hB⟩
  · have e1 : ctlOk a b c d e = false := by simpa using e1
    have E := hide e1
    have ET : Hid (ctlT a b c d e = ⟨#[]⟩) := hide (by unfold ctlT; rw [e1]; rfl)
    clear e1
    go_enter Tryz.func19, Tryz.ntmps19
    go_wp2_with fail
    obtain ⟨W0, hW0⟩ : ∃ W0 : World, W0 = (w.alloc (.cells #[.int .i64 a, .int .i64 b, .int .i64 c, .int .i64 d, .int .i64 e] 28)) := ⟨_, rfl⟩
    rw [← hW0]
    have kc : Box W0 (w.heap.size) [.int .i64 a, .int .i64 b, .int .i64 c, .int .i64 d, .int .i64 e] := by rw [hW0]; exact box_at _ _ _ _ (by simp)
    have hB : Below w.heap.size w W0 := by rw [hW0]; exact (by repeat (first | exact Below.refl _ _ | refine Below.drew ?_ | refine Below.alloc ?_ (by first | (simp; done) | (simp; omega)) _))
    have hs0 : w.heap.size + 1 ≤ W0.heap.size := by rw [hW0]; first | (simp; done) | (simp; omega)
    clear hW0
    have nkc : w.heap.size < W0.heap.size := by omega
    have lkc_0 := kc 0 _ rfl
    have lkc_1 := kc 1 _ rfl
    have lkc_2 := kc 2 _ rfl
    have lkc_3 := kc 3 _ rfl
    have lkc_4 := kc 4 _ rfl
    go_wp2_with fail
    clear nkc lkc_0 lkc_1 lkc_2 lkc_3 lkc_4
    refine (l18Ok_any a b c d e _).mono ?_
    rintro e w1 ⟨rfl, hb⟩
    have hbb : Below W0.heap.size W0 w1 := Below.trans (by repeat (first | exact Below.refl _ _ | refine Below.drew ?_ | refine Below.alloc ?_ (by first | (simp; done) | (simp; omega)) _)) (Below.mono hb (by simp))
    clear hb
    have hs1 := hbb.size
    replace kc := kc.below hbb (by omega)
    replace hB := hB.trans (hbb.mono (by omega))
    clear hbb
    rw [E.out]
    go_wp2_with fail
    go_ret
    exact ⟨retstr ET.out.symm, hB⟩

set_option maxRecDepth 100000 in
set_option maxHeartbeats 2000000 in
theorem implControlText_any (a b c d e : Int) (w : World) (ht : Tb w) :
    Calls Tryz.prog 18 #[.agg #[.int .i64 a, .int .i64 b, .int .i64 c, .int .i64 d, .int .i64 e]] w fun e' w' => e' = .returned (.string (ctlT a b c d e)) ∧ Below w.heap.size w w' := by
  by_cases e1 : ctlOk a b c d e = true
  · skip
    obtain ⟨ha, hb', hc, hd, he⟩ := ctlOk_true e1
    obtain ⟨m, rfl⟩ : ∃ m : Nat, e = (m : Int) + 1 := ⟨(e - 1).toNat, by omega⟩
    have hm : m < 4 := by omega
    have E := hide e1
    obtain ⟨s0, hs0⟩ : ∃ s, str a = s := ⟨_, rfl⟩
    have z0 : s0.size ≤ 21 := by rw [← hs0]; exact str_size (by omega) (by omega)
    have HS0 := hide hs0
    obtain ⟨s1, hs1⟩ : ∃ s, str b = s := ⟨_, rfl⟩
    have z1 : s1.size ≤ 21 := by rw [← hs1]; exact str_size (by omega) (by omega)
    have HS1 := hide hs1
    obtain ⟨s2, hs2⟩ : ∃ s, str c = s := ⟨_, rfl⟩
    have z2 : s2.size ≤ 21 := by rw [← hs2]; exact str_size (by omega) (by omega)
    have HS2 := hide hs2
    obtain ⟨s3, hs3⟩ : ∃ s, str d = s := ⟨_, rfl⟩
    have z3 : s3.size ≤ 21 := by rw [← hs3]; exact str_size (by omega) (by omega)
    have HS3 := hide hs3
    obtain ⟨sn, hsn⟩ : ∃ s, nmM m = s := ⟨_, rfl⟩
    have zn : sn.size = 4 := by rw [← hsn]; exact nmM_size _
    have zn2 : sn.size ≤ 4 := by omega
    clear zn
    have HSN := hide hsn
    have ET := hide (ctlT_ok e1 hs0 hs1 hs2 hs3 hsn)
    clear hs0 hs1 hs2 hs3 hsn e1
    go_enter Tryz.func18, Tryz.ntmps18
    go_wp2_with fail
    obtain ⟨W0, hW0⟩ : ∃ W0 : World, W0 = (w.alloc (.cells #[.int .i64 a, .int .i64 b, .int .i64 c, .int .i64 d, .int .i64 ((m : Int) + 1)] 28)) := ⟨_, rfl⟩
    rw [← hW0]
    have kc : Box W0 (w.heap.size) [.int .i64 a, .int .i64 b, .int .i64 c, .int .i64 d, .int .i64 ((m : Int) + 1)] := by rw [hW0]; exact box_at _ _ _ _ (by simp)
    have hB : Below w.heap.size w W0 := by rw [hW0]; exact (by repeat (first | exact Below.refl _ _ | refine Below.drew ?_ | refine Below.alloc ?_ (by first | (simp; done) | (simp; omega)) _))
    have hs0 : w.heap.size + 1 ≤ W0.heap.size := by rw [hW0]; first | (simp; done) | (simp; omega)
    clear hW0
    replace ht := ht.below hB (by omega)
    have nkc : w.heap.size < W0.heap.size := by omega
    have lkc_0 := kc 0 _ rfl
    have lkc_1 := kc 1 _ rfl
    have lkc_2 := kc 2 _ rfl
    have lkc_3 := kc 3 _ rfl
    have lkc_4 := kc 4 _ rfl
    go_wp2_with fail
    clear nkc lkc_0 lkc_1 lkc_2 lkc_3 lkc_4
    refine (implValidControl_any a b c d ((m : Int) + 1) _).mono ?_
    rintro e w1 ⟨rfl, hb⟩
    have hbb : Below W0.heap.size W0 w1 := Below.trans (by repeat (first | exact Below.refl _ _ | refine Below.drew ?_ | refine Below.alloc ?_ (by first | (simp; done) | (simp; omega)) _)) (Below.mono hb (by simp))
    clear hb
    have hs1 := hbb.size
    replace ht := ht.below hbb (by omega)
    replace kc := kc.below hbb (by omega)
    replace hB := hB.trans (hbb.mono (by omega))
    clear hbb
    rw [E.out]
    go_wp2_with fail
    obtain ⟨t1, ht1⟩ : ∃ t, s0 ++ ⟨#[62]⟩ = t := ⟨_, rfl⟩
    have zt1 : t1.size ≤ 22 := by rw [← ht1, ByteArray.size_append]; have e1 : (⟨#[62]⟩ : ByteArray).size = 1 := rfl; omega
    obtain ⟨t2, ht2⟩ : ∃ t, t1 ++ s1 = t := ⟨_, rfl⟩
    have zt2 : t2.size ≤ 43 := by rw [← ht2, ByteArray.size_append]; omega
    obtain ⟨t3, ht3⟩ : ∃ t, t2 ++ ⟨#[32]⟩ = t := ⟨_, rfl⟩
    have zt3 : t3.size ≤ 44 := by rw [← ht3, ByteArray.size_append]; have e1 : (⟨#[32]⟩ : ByteArray).size = 1 := rfl; omega
    obtain ⟨t4, ht4⟩ : ∃ t, t3 ++ sn = t := ⟨_, rfl⟩
    have zt4 : t4.size ≤ 48 := by rw [← ht4, ByteArray.size_append]; omega
    obtain ⟨t5, ht5⟩ : ∃ t, t4 ++ ⟨#[32]⟩ = t := ⟨_, rfl⟩
    have zt5 : t5.size ≤ 49 := by rw [← ht5, ByteArray.size_append]; have e1 : (⟨#[32]⟩ : ByteArray).size = 1 := rfl; omega
    obtain ⟨t6, ht6⟩ : ∃ t, t5 ++ s2 = t := ⟨_, rfl⟩
    have zt6 : t6.size ≤ 70 := by rw [← ht6, ByteArray.size_append]; omega
    obtain ⟨t7, ht7⟩ : ∃ t, t6 ++ ⟨#[43]⟩ = t := ⟨_, rfl⟩
    have zt7 : t7.size ≤ 71 := by rw [← ht7, ByteArray.size_append]; have e1 : (⟨#[43]⟩ : ByteArray).size = 1 := rfl; omega
    obtain ⟨t8, ht8⟩ : ∃ t, t7 ++ s3 = t := ⟨_, rfl⟩
    have zt8 : t8.size ≤ 92 := by rw [← ht8, ByteArray.size_append]; omega
    have ET2 : Hid (ctlT a b c d ((m : Int) + 1) = t8) := hide (by rw [ET.out, ht1, ht2, ht3, ht4, ht5, ht6, ht7, ht8])
    have nz1 : ¬ 9223372036854775807 ≤ s0.size := by omega
    have ny1 : ¬ 9223372036854775807 < s0.size + 1 := by omega
    have nz2 : ¬ 9223372036854775807 < t1.size + s1.size := by omega
    have nz3 : ¬ 9223372036854775807 ≤ t2.size := by omega
    have ny3 : ¬ 9223372036854775807 < t2.size + 1 := by omega
    have nz4 : ¬ 9223372036854775807 < t3.size + sn.size := by omega
    have nz5 : ¬ 9223372036854775807 ≤ t4.size := by omega
    have ny5 : ¬ 9223372036854775807 < t4.size + 1 := by omega
    have nz6 : ¬ 9223372036854775807 < t5.size + s2.size := by omega
    have nz7 : ¬ 9223372036854775807 ≤ t6.size := by omega
    have ny7 : ¬ 9223372036854775807 < t6.size + 1 := by omega
    have nz8 : ¬ 9223372036854775807 < t7.size + s3.size := by omega
    clear ET zt1 zt2 zt3 zt4 zt5 zt6 zt7 zt8
    have HS : Hid ((World.drew w1).cell? ⟨w.heap.size, 0, none⟩ = some (.int .i64 a) ∧ (World.drew w1).cell? ⟨w.heap.size, 1, none⟩ = some (.int .i64 b) ∧ (World.drew w1).cell? ⟨w.heap.size, 2, none⟩ = some (.int .i64 c) ∧ (World.drew w1).cell? ⟨w.heap.size, 3, none⟩ = some (.int .i64 d) ∧ (World.drew w1).cell? ⟨w.heap.size, 4, none⟩ = some (.int .i64 ((m : Int) + 1))) := hide ⟨kc 0 _ rfl, kc 1 _ rfl, kc 2 _ rfl, kc 3 _ rfl, kc 4 _ rfl⟩
    go_region_held3 (fun W => W.cell? ⟨w.heap.size, 0, none⟩ = some (.int .i64 a) ∧ W.cell? ⟨w.heap.size, 1, none⟩ = some (.int .i64 b) ∧ W.cell? ⟨w.heap.size, 2, none⟩ = some (.int .i64 c) ∧ W.cell? ⟨w.heap.size, 3, none⟩ = some (.int .i64 d) ∧ W.cell? ⟨w.heap.size, 4, none⟩ = some (.int .i64 ((m : Int) + 1))) (with_reducible exact HS.out) (first | (go_at_call 42; (with_reducible refine (decimal_is (n := a) (by omega) (by omega) HS0.out ht.drew).mono ?_); rintro e w2 ⟨rfl, hb⟩; have hbb : Below w1.heap.size w1 w2 := Below.trans (by repeat (first | exact Below.refl _ _ | refine Below.drew ?_ | refine Below.alloc ?_ (by first | (simp; done) | (simp; omega)) _)) (Below.mono hb (by simp)); clear hb; have hs2 := hbb.size; replace ht := ht.below hbb (by omega); replace kc := kc.below hbb (by omega); replace hB := hB.trans (hbb.mono (by omega)); clear hbb; have HS : Hid (w2.cell? ⟨w.heap.size, 0, none⟩ = some (.int .i64 a) ∧ w2.cell? ⟨w.heap.size, 1, none⟩ = some (.int .i64 b) ∧ w2.cell? ⟨w.heap.size, 2, none⟩ = some (.int .i64 c) ∧ w2.cell? ⟨w.heap.size, 3, none⟩ = some (.int .i64 d) ∧ w2.cell? ⟨w.heap.size, 4, none⟩ = some (.int .i64 ((m : Int) + 1))) := hide ⟨kc 0 _ rfl, kc 1 _ rfl, kc 2 _ rfl, kc 3 _ rfl, kc 4 _ rfl⟩) | (go_at_call 42; (with_reducible refine (decimal_is (n := b) (by omega) (by omega) HS1.out ht).mono ?_); rintro e w3 ⟨rfl, hb⟩; have hbb : Below w2.heap.size w2 w3 := Below.trans (by repeat (first | exact Below.refl _ _ | refine Below.drew ?_ | refine Below.alloc ?_ (by first | (simp; done) | (simp; omega)) _)) (Below.mono hb (by simp)); clear hb; have hs3 := hbb.size; replace ht := ht.below hbb (by omega); replace kc := kc.below hbb (by omega); replace hB := hB.trans (hbb.mono (by omega)); clear hbb; have HS : Hid (w3.cell? ⟨w.heap.size, 0, none⟩ = some (.int .i64 a) ∧ w3.cell? ⟨w.heap.size, 1, none⟩ = some (.int .i64 b) ∧ w3.cell? ⟨w.heap.size, 2, none⟩ = some (.int .i64 c) ∧ w3.cell? ⟨w.heap.size, 3, none⟩ = some (.int .i64 d) ∧ w3.cell? ⟨w.heap.size, 4, none⟩ = some (.int .i64 ((m : Int) + 1))) := hide ⟨kc 0 _ rfl, kc 1 _ rfl, kc 2 _ rfl, kc 3 _ rfl, kc 4 _ rfl⟩) | (go_at_call 16; (with_reducible refine (modeName_is hm HSN.out).mono ?_); rintro e w4 ⟨rfl, hb⟩; have hbb : Below w3.heap.size w3 w4 := Below.trans (by repeat (first | exact Below.refl _ _ | refine Below.drew ?_ | refine Below.alloc ?_ (by first | (simp; done) | (simp; omega)) _)) (Below.mono hb (by simp)); clear hb; have hs4 := hbb.size; replace ht := ht.below hbb (by omega); replace kc := kc.below hbb (by omega); replace hB := hB.trans (hbb.mono (by omega)); clear hbb; have HS : Hid (w4.cell? ⟨w.heap.size, 0, none⟩ = some (.int .i64 a) ∧ w4.cell? ⟨w.heap.size, 1, none⟩ = some (.int .i64 b) ∧ w4.cell? ⟨w.heap.size, 2, none⟩ = some (.int .i64 c) ∧ w4.cell? ⟨w.heap.size, 3, none⟩ = some (.int .i64 d) ∧ w4.cell? ⟨w.heap.size, 4, none⟩ = some (.int .i64 ((m : Int) + 1))) := hide ⟨kc 0 _ rfl, kc 1 _ rfl, kc 2 _ rfl, kc 3 _ rfl, kc 4 _ rfl⟩) | (go_at_call 42; (with_reducible refine (decimal_is (n := c) (by omega) (by omega) HS2.out ht).mono ?_); rintro e w5 ⟨rfl, hb⟩; have hbb : Below w4.heap.size w4 w5 := Below.trans (by repeat (first | exact Below.refl _ _ | refine Below.drew ?_ | refine Below.alloc ?_ (by first | (simp; done) | (simp; omega)) _)) (Below.mono hb (by simp)); clear hb; have hs5 := hbb.size; replace ht := ht.below hbb (by omega); replace kc := kc.below hbb (by omega); replace hB := hB.trans (hbb.mono (by omega)); clear hbb; have HS : Hid (w5.cell? ⟨w.heap.size, 0, none⟩ = some (.int .i64 a) ∧ w5.cell? ⟨w.heap.size, 1, none⟩ = some (.int .i64 b) ∧ w5.cell? ⟨w.heap.size, 2, none⟩ = some (.int .i64 c) ∧ w5.cell? ⟨w.heap.size, 3, none⟩ = some (.int .i64 d) ∧ w5.cell? ⟨w.heap.size, 4, none⟩ = some (.int .i64 ((m : Int) + 1))) := hide ⟨kc 0 _ rfl, kc 1 _ rfl, kc 2 _ rfl, kc 3 _ rfl, kc 4 _ rfl⟩) | (go_at_call 42; (with_reducible refine (decimal_is (n := d) (by omega) (by omega) HS3.out ht).mono ?_); rintro e w6 ⟨rfl, hb⟩; have hbb : Below w5.heap.size w5 w6 := Below.trans (by repeat (first | exact Below.refl _ _ | refine Below.drew ?_ | refine Below.alloc ?_ (by first | (simp; done) | (simp; omega)) _)) (Below.mono hb (by simp)); clear hb; have hs6 := hbb.size; replace ht := ht.below hbb (by omega); replace kc := kc.below hbb (by omega); replace hB := hB.trans (hbb.mono (by omega)); clear hbb; have HS : Hid (w6.cell? ⟨w.heap.size, 0, none⟩ = some (.int .i64 a) ∧ w6.cell? ⟨w.heap.size, 1, none⟩ = some (.int .i64 b) ∧ w6.cell? ⟨w.heap.size, 2, none⟩ = some (.int .i64 c) ∧ w6.cell? ⟨w.heap.size, 3, none⟩ = some (.int .i64 d) ∧ w6.cell? ⟨w.heap.size, 4, none⟩ = some (.int .i64 ((m : Int) + 1))) := hide ⟨kc 0 _ rfl, kc 1 _ rfl, kc 2 _ rfl, kc 3 _ rfl, kc 4 _ rfl⟩))
    go_wp2_with fail
    go_ret
    exact ⟨retstr ET2.out.symm, hB⟩
  · have e1 : ctlOk a b c d e = false := by simpa using e1
    have E := hide e1
    have ET : Hid (ctlT a b c d e = ⟨#[]⟩) := hide (by unfold ctlT; rw [e1]; rfl)
    clear e1
    go_enter Tryz.func18, Tryz.ntmps18
    go_wp2_with fail
    obtain ⟨W0, hW0⟩ : ∃ W0 : World, W0 = (w.alloc (.cells #[.int .i64 a, .int .i64 b, .int .i64 c, .int .i64 d, .int .i64 e] 28)) := ⟨_, rfl⟩
    rw [← hW0]
    have kc : Box W0 (w.heap.size) [.int .i64 a, .int .i64 b, .int .i64 c, .int .i64 d, .int .i64 e] := by rw [hW0]; exact box_at _ _ _ _ (by simp)
    have hB : Below w.heap.size w W0 := by rw [hW0]; exact (by repeat (first | exact Below.refl _ _ | refine Below.drew ?_ | refine Below.alloc ?_ (by first | (simp; done) | (simp; omega)) _))
    have hs0 : w.heap.size + 1 ≤ W0.heap.size := by rw [hW0]; first | (simp; done) | (simp; omega)
    clear hW0
    replace ht := ht.below hB (by omega)
    have nkc : w.heap.size < W0.heap.size := by omega
    have lkc_0 := kc 0 _ rfl
    have lkc_1 := kc 1 _ rfl
    have lkc_2 := kc 2 _ rfl
    have lkc_3 := kc 3 _ rfl
    have lkc_4 := kc 4 _ rfl
    go_wp2_with fail
    clear nkc lkc_0 lkc_1 lkc_2 lkc_3 lkc_4
    refine (implValidControl_any a b c d e _).mono ?_
    rintro e w1 ⟨rfl, hb⟩
    have hbb : Below W0.heap.size W0 w1 := Below.trans (by repeat (first | exact Below.refl _ _ | refine Below.drew ?_ | refine Below.alloc ?_ (by first | (simp; done) | (simp; omega)) _)) (Below.mono hb (by simp))
    clear hb
    have hs1 := hbb.size
    replace ht := ht.below hbb (by omega)
    replace kc := kc.below hbb (by omega)
    replace hB := hB.trans (hbb.mono (by omega))
    clear hbb
    rw [E.out]
    go_wp2_with fail
    go_ret
    exact ⟨retstr ET.out.symm, hB⟩

end Go.Proofs.YtnbahmjimnhfbaaGreatDoor
