/-
  A CONTROLLER AFTER A STEP: the reference's and the program's. No condition but those that each theorem names.
-/
import Derived.Test.YtnbahmjimnhfbaaGreatDoorClr
import Derived.Test.YtnbahmjimnhfbaaGreatDoorControl
namespace Go.Proofs.YtnbahmjimnhfbaaGreatDoor
open Go.RowKit
set_option linter.unusedVariables false

def nxtD (a g : Int) : Int := (a + (if trn a g < 0 then -1 else 1)) % 24
theorem nxtD_bd (a g : Int) : 0 ≤ nxtD a g ∧ nxtD a g ≤ 23 := by unfold nxtD; omega
def stM (T : List (List Bool)) (mg st : Int) (first : Bool) (a g s t : Int) : Int := if a = g then 1 else if t > st then 4 else if clr T first (nxtD a g) s (mg + t) = true then 2 else 3
def stA (T : List (List Bool)) (mg st : Int) (first : Bool) (a g s t : Int) : Int := if stM T mg st first a g s t = 2 then nxtD a g else a
theorem stM_eq {T : List (List Bool)} {mg st : Int} {first : Bool} {a s t : Int} : stM T mg st first a a s t = 1 := by simp [stM]
theorem stM_old {T : List (List Bool)} {mg st : Int} {first : Bool} {a g s t : Int} (h : a ≠ g) (h2 : t > st) : stM T mg st first a g s t = 4 := by simp [stM, h, h2]
theorem stM_clr {T : List (List Bool)} {mg st : Int} {first : Bool} {a g s t : Int} (h : a ≠ g) (h2 : t ≤ st) (h3 : clr T first (nxtD a g) s (mg + t) = true) : stM T mg st first a g s t = 2 := by
  unfold stM; rw [if_neg h, if_neg (by omega), if_pos h3]
theorem stM_bad {T : List (List Bool)} {mg st : Int} {first : Bool} {a g s t : Int} (h : a ≠ g) (h2 : t ≤ st) (h3 : clr T first (nxtD a g) s (mg + t) = false) : stM T mg st first a g s t = 3 := by
  unfold stM; rw [if_neg h, if_neg (by omega), if_neg (by simp [h3])]

set_option maxRecDepth 100000 in
set_option maxHeartbeats 4000000 in
theorem l18Step_any (A : Option Addr) (n c lo hi : Nat) (T : List (List Bool)) (ok : okT T = true) (mg st : Int) (first : Bool) (a g s t md : Int) (h1 : 0 ≤ mg) (h2 : mg ≤ 3) (h3 : 0 ≤ st) (h4 : st ≤ 6) (a1 : 0 ≤ a) (a2 : a ≤ 23) (g1 : 0 ≤ g) (g2 : g ≤ 23) (s1 : 0 ≤ s) (s2 : s ≤ 23) (t1 : 0 ≤ t) (t2 : t ≤ 200) (w : World) (h : RdSS w lo hi A n (rrBool T)) (hhi : hi ≤ w.heap.size) :
    Calls Tryz.prog 55 #[.slice A n c, .agg #[.int .i64 mg, .int .i64 st], .bool first, .agg #[.int .i64 a, .int .i64 g, .int .i64 s, .int .i64 t, .int .i64 md]] w fun e w' => e = .returned (.agg #[.int .i64 (stA T mg st first a g s t), .int .i64 g, .int .i64 s, .int .i64 t, .int .i64 (stM T mg st first a g s t)]) ∧ Below w.heap.size w w' := by
  have BB : ∀ o1 o2 o3 : Obj, Below w.heap.size w (((w.alloc o1).alloc o2).alloc o3) := fun o1 o2 o3 => (((Below.refl _ _).alloc (Nat.le_refl _) _).alloc (by simp) _).alloc (by simp; omega) _
  have H3 : ∀ o1 o2 o3 : Obj, RdSS (((w.alloc o1).alloc o2).alloc o3) lo hi A n (rrBool T) := fun o1 o2 o3 => h.below (BB o1 o2 o3) hhi
  have HB := hide BB
  have HR := hide H3
  clear BB H3 h
  by_cases he : a = g
  · subst he
    have HM := hide (stM_eq (T := T) (mg := mg) (st := st) (first := first) (a := a) (s := s) (t := t))
    have HA : Hid (stA T mg st first a a s t = a) := hide (by unfold stA; rw [HM.out]; rfl)
    go_enter Tryz.func55, Tryz.ntmps55
    go_wp2_with fail
    refine bodyPost_ret (v := .agg #[.int .i64 a, .int .i64 a, .int .i64 s, .int .i64 t, .int .i64 1]) (by simp [results, Tryz.results55, go_sem]) rfl ⟨by rw [HA.out, HM.out], ?_⟩
    repeat (with_reducible refine Below.setCell ?_ (by simp; try omega) _)
    exact HB.out _ _ _
  have heb : (a == g) = false := by simpa using he
  by_cases ho : t > st
  · have HM := hide (stM_old (T := T) (mg := mg) (first := first) (s := s) he ho)
    have HA : Hid (stA T mg st first a g s t = a) := hide (by unfold stA; rw [HM.out]; rfl)
    go_enter Tryz.func55, Tryz.ntmps55
    go_wp2_with fail
    refine bodyPost_ret (v := .agg #[.int .i64 a, .int .i64 g, .int .i64 s, .int .i64 t, .int .i64 4]) (by simp [results, Tryz.results55, go_sem]) rfl ⟨by rw [HA.out, HM.out], ?_⟩
    repeat (with_reducible refine Below.setCell ?_ (by simp; try omega) _)
    exact HB.out _ _ _
  have ho2 : t ≤ st := by omega
  have hnx : nxtD a g = (a + (if trn a g < 0 then -1 else 1)) % 24 := rfl
  by_cases hz : trn a g < 0
  · rw [if_pos hz] at hnx
    have HN := hide hnx
    clear hnx
    obtain ⟨n1, n2⟩ := nxtD_bd a g
    cases hq : clr T first (nxtD a g) s (mg + t)
    · have HM := hide (stM_bad he ho2 hq)
      have HA : Hid (stA T mg st first a g s t = a) := hide (by unfold stA; rw [HM.out]; rfl)
      go_enter Tryz.func55, Tryz.ntmps55
      go_wp2_with (first | (go_at_call 67; refine (l02Turn_any _ _ (by omega) (by omega) (by omega) (by omega) _).mono ?_; rintro e w' ⟨rfl, hw⟩; obtain rfl := hw.symm) | (go_at_call 68; refine (l02Mod_any _ (by omega) (by omega) _).mono ?_; rintro e w' ⟨rfl, hw⟩; obtain rfl := hw.symm; rw [← HN.out]))
      refine (l19Guard_any A n c lo hi T ok (mg + t) first (nxtD a g) s (by omega) (by omega) n1 n2 s1 s2 _ (HR.out _ _ _) (by simp; omega)).mono ?_
      rintro e w1 ⟨rfl, hb1⟩
      rw [hq]
      obtain ⟨hc1, hf1⟩ := bcell hb1
      have hs1 := hb1.size
      simp at hs1
      have d0_0 : w1.cell? ⟨w.heap.size, 0, none⟩ = some (.int .i64 mg) := (hc1 _ _ (by simp; try omega)).trans (by go_simp)
      have d0_1 : w1.cell? ⟨w.heap.size, 1, none⟩ = some (.int .i64 st) := (hc1 _ _ (by simp; try omega)).trans (by go_simp)
      have d1_0 : w1.cell? ⟨w.heap.size + 1, 0, none⟩ = some (.int .i64 a) := (hc1 _ _ (by simp; try omega)).trans (by go_simp)
      have d1_1 : w1.cell? ⟨w.heap.size + 1, 1, none⟩ = some (.int .i64 g) := (hc1 _ _ (by simp; try omega)).trans (by go_simp)
      have d1_2 : w1.cell? ⟨w.heap.size + 1, 2, none⟩ = some (.int .i64 s) := (hc1 _ _ (by simp; try omega)).trans (by go_simp)
      have d1_3 : w1.cell? ⟨w.heap.size + 1, 3, none⟩ = some (.int .i64 t) := (hc1 _ _ (by simp; try omega)).trans (by go_simp)
      have d1_4 : w1.cell? ⟨w.heap.size + 1, 4, none⟩ = some (.int .i64 md) := (hc1 _ _ (by simp; try omega)).trans (by go_simp)
      have df1_0 : w1.frozen? ⟨w.heap.size + 1, 0, none⟩ = false := (hf1 _ _ (by simp; try omega)).trans (by go_simp)
      have df1_1 : w1.frozen? ⟨w.heap.size + 1, 1, none⟩ = false := (hf1 _ _ (by simp; try omega)).trans (by go_simp)
      have df1_2 : w1.frozen? ⟨w.heap.size + 1, 2, none⟩ = false := (hf1 _ _ (by simp; try omega)).trans (by go_simp)
      have df1_3 : w1.frozen? ⟨w.heap.size + 1, 3, none⟩ = false := (hf1 _ _ (by simp; try omega)).trans (by go_simp)
      have df1_4 : w1.frozen? ⟨w.heap.size + 1, 4, none⟩ = false := (hf1 _ _ (by simp; try omega)).trans (by go_simp)
      have d2_0 : w1.cell? ⟨w.heap.size + 2, 0, none⟩ = some (.int .i64 0) := (hc1 _ _ (by simp; try omega)).trans (by go_simp)
      have d2_1 : w1.cell? ⟨w.heap.size + 2, 1, none⟩ = some (.int .i64 0) := (hc1 _ _ (by simp; try omega)).trans (by go_simp)
      have d2_2 : w1.cell? ⟨w.heap.size + 2, 2, none⟩ = some (.int .i64 0) := (hc1 _ _ (by simp; try omega)).trans (by go_simp)
      have d2_3 : w1.cell? ⟨w.heap.size + 2, 3, none⟩ = some (.int .i64 0) := (hc1 _ _ (by simp; try omega)).trans (by go_simp)
      have d2_4 : w1.cell? ⟨w.heap.size + 2, 4, none⟩ = some (.int .i64 0) := (hc1 _ _ (by simp; try omega)).trans (by go_simp)
      have df2_0 : w1.frozen? ⟨w.heap.size + 2, 0, none⟩ = false := (hf1 _ _ (by simp; try omega)).trans (by go_simp)
      have df2_1 : w1.frozen? ⟨w.heap.size + 2, 1, none⟩ = false := (hf1 _ _ (by simp; try omega)).trans (by go_simp)
      have df2_2 : w1.frozen? ⟨w.heap.size + 2, 2, none⟩ = false := (hf1 _ _ (by simp; try omega)).trans (by go_simp)
      have df2_3 : w1.frozen? ⟨w.heap.size + 2, 3, none⟩ = false := (hf1 _ _ (by simp; try omega)).trans (by go_simp)
      have df2_4 : w1.frozen? ⟨w.heap.size + 2, 4, none⟩ = false := (hf1 _ _ (by simp; try omega)).trans (by go_simp)
      clear hc1 hf1
      go_wp2_with fail
      refine bodyPost_ret (v := .agg #[.int .i64 a, .int .i64 g, .int .i64 s, .int .i64 t, .int .i64 3]) (by simp [results, Tryz.results55, go_sem, d2_0, d2_1, d2_2, d2_3, d2_4]) rfl ⟨by rw [HA.out, HM.out], ?_⟩
      repeat (with_reducible refine Below.setCell ?_ (by simp; try omega) _)
      exact (HB.out _ _ _).trans (hb1.mono (by simp; omega))
    · have HM := hide (stM_clr he ho2 hq)
      have HA : Hid (stA T mg st first a g s t = nxtD a g) := hide (by unfold stA; rw [HM.out]; rfl)
      go_enter Tryz.func55, Tryz.ntmps55
      go_wp2_with (first | (go_at_call 67; refine (l02Turn_any _ _ (by omega) (by omega) (by omega) (by omega) _).mono ?_; rintro e w' ⟨rfl, hw⟩; obtain rfl := hw.symm) | (go_at_call 68; refine (l02Mod_any _ (by omega) (by omega) _).mono ?_; rintro e w' ⟨rfl, hw⟩; obtain rfl := hw.symm; rw [← HN.out]))
      refine (l19Guard_any A n c lo hi T ok (mg + t) first (nxtD a g) s (by omega) (by omega) n1 n2 s1 s2 _ (HR.out _ _ _) (by simp; omega)).mono ?_
      rintro e w1 ⟨rfl, hb1⟩
      rw [hq]
      obtain ⟨hc1, hf1⟩ := bcell hb1
      have hs1 := hb1.size
      simp at hs1
      have d0_0 : w1.cell? ⟨w.heap.size, 0, none⟩ = some (.int .i64 mg) := (hc1 _ _ (by simp; try omega)).trans (by go_simp)
      have d0_1 : w1.cell? ⟨w.heap.size, 1, none⟩ = some (.int .i64 st) := (hc1 _ _ (by simp; try omega)).trans (by go_simp)
      have d1_0 : w1.cell? ⟨w.heap.size + 1, 0, none⟩ = some (.int .i64 a) := (hc1 _ _ (by simp; try omega)).trans (by go_simp)
      have d1_1 : w1.cell? ⟨w.heap.size + 1, 1, none⟩ = some (.int .i64 g) := (hc1 _ _ (by simp; try omega)).trans (by go_simp)
      have d1_2 : w1.cell? ⟨w.heap.size + 1, 2, none⟩ = some (.int .i64 s) := (hc1 _ _ (by simp; try omega)).trans (by go_simp)
      have d1_3 : w1.cell? ⟨w.heap.size + 1, 3, none⟩ = some (.int .i64 t) := (hc1 _ _ (by simp; try omega)).trans (by go_simp)
      have d1_4 : w1.cell? ⟨w.heap.size + 1, 4, none⟩ = some (.int .i64 md) := (hc1 _ _ (by simp; try omega)).trans (by go_simp)
      have df1_0 : w1.frozen? ⟨w.heap.size + 1, 0, none⟩ = false := (hf1 _ _ (by simp; try omega)).trans (by go_simp)
      have df1_1 : w1.frozen? ⟨w.heap.size + 1, 1, none⟩ = false := (hf1 _ _ (by simp; try omega)).trans (by go_simp)
      have df1_2 : w1.frozen? ⟨w.heap.size + 1, 2, none⟩ = false := (hf1 _ _ (by simp; try omega)).trans (by go_simp)
      have df1_3 : w1.frozen? ⟨w.heap.size + 1, 3, none⟩ = false := (hf1 _ _ (by simp; try omega)).trans (by go_simp)
      have df1_4 : w1.frozen? ⟨w.heap.size + 1, 4, none⟩ = false := (hf1 _ _ (by simp; try omega)).trans (by go_simp)
      have d2_0 : w1.cell? ⟨w.heap.size + 2, 0, none⟩ = some (.int .i64 0) := (hc1 _ _ (by simp; try omega)).trans (by go_simp)
      have d2_1 : w1.cell? ⟨w.heap.size + 2, 1, none⟩ = some (.int .i64 0) := (hc1 _ _ (by simp; try omega)).trans (by go_simp)
      have d2_2 : w1.cell? ⟨w.heap.size + 2, 2, none⟩ = some (.int .i64 0) := (hc1 _ _ (by simp; try omega)).trans (by go_simp)
      have d2_3 : w1.cell? ⟨w.heap.size + 2, 3, none⟩ = some (.int .i64 0) := (hc1 _ _ (by simp; try omega)).trans (by go_simp)
      have d2_4 : w1.cell? ⟨w.heap.size + 2, 4, none⟩ = some (.int .i64 0) := (hc1 _ _ (by simp; try omega)).trans (by go_simp)
      have df2_0 : w1.frozen? ⟨w.heap.size + 2, 0, none⟩ = false := (hf1 _ _ (by simp; try omega)).trans (by go_simp)
      have df2_1 : w1.frozen? ⟨w.heap.size + 2, 1, none⟩ = false := (hf1 _ _ (by simp; try omega)).trans (by go_simp)
      have df2_2 : w1.frozen? ⟨w.heap.size + 2, 2, none⟩ = false := (hf1 _ _ (by simp; try omega)).trans (by go_simp)
      have df2_3 : w1.frozen? ⟨w.heap.size + 2, 3, none⟩ = false := (hf1 _ _ (by simp; try omega)).trans (by go_simp)
      have df2_4 : w1.frozen? ⟨w.heap.size + 2, 4, none⟩ = false := (hf1 _ _ (by simp; try omega)).trans (by go_simp)
      clear hc1 hf1
      go_wp2_with fail
      refine bodyPost_ret (v := .agg #[.int .i64 (nxtD a g), .int .i64 g, .int .i64 s, .int .i64 t, .int .i64 2]) (by simp [results, Tryz.results55, go_sem, d2_0, d2_1, d2_2, d2_3, d2_4]) rfl ⟨by rw [HA.out, HM.out], ?_⟩
      repeat (with_reducible refine Below.setCell ?_ (by simp; try omega) _)
      exact (HB.out _ _ _).trans (hb1.mono (by simp; omega))
  · rw [if_neg hz] at hnx
    have hz2 : 0 ≤ trn a g := by omega
    have HN := hide hnx
    clear hnx
    obtain ⟨n1, n2⟩ := nxtD_bd a g
    cases hq : clr T first (nxtD a g) s (mg + t)
    · have HM := hide (stM_bad he ho2 hq)
      have HA : Hid (stA T mg st first a g s t = a) := hide (by unfold stA; rw [HM.out]; rfl)
      go_enter Tryz.func55, Tryz.ntmps55
      go_wp2_with (first | (go_at_call 67; refine (l02Turn_any _ _ (by omega) (by omega) (by omega) (by omega) _).mono ?_; rintro e w' ⟨rfl, hw⟩; obtain rfl := hw.symm) | (go_at_call 68; refine (l02Mod_any _ (by omega) (by omega) _).mono ?_; rintro e w' ⟨rfl, hw⟩; obtain rfl := hw.symm; rw [← HN.out]))
      refine (l19Guard_any A n c lo hi T ok (mg + t) first (nxtD a g) s (by omega) (by omega) n1 n2 s1 s2 _ (HR.out _ _ _) (by simp; omega)).mono ?_
      rintro e w1 ⟨rfl, hb1⟩
      rw [hq]
      obtain ⟨hc1, hf1⟩ := bcell hb1
      have hs1 := hb1.size
      simp at hs1
      have d0_0 : w1.cell? ⟨w.heap.size, 0, none⟩ = some (.int .i64 mg) := (hc1 _ _ (by simp; try omega)).trans (by go_simp)
      have d0_1 : w1.cell? ⟨w.heap.size, 1, none⟩ = some (.int .i64 st) := (hc1 _ _ (by simp; try omega)).trans (by go_simp)
      have d1_0 : w1.cell? ⟨w.heap.size + 1, 0, none⟩ = some (.int .i64 a) := (hc1 _ _ (by simp; try omega)).trans (by go_simp)
      have d1_1 : w1.cell? ⟨w.heap.size + 1, 1, none⟩ = some (.int .i64 g) := (hc1 _ _ (by simp; try omega)).trans (by go_simp)
      have d1_2 : w1.cell? ⟨w.heap.size + 1, 2, none⟩ = some (.int .i64 s) := (hc1 _ _ (by simp; try omega)).trans (by go_simp)
      have d1_3 : w1.cell? ⟨w.heap.size + 1, 3, none⟩ = some (.int .i64 t) := (hc1 _ _ (by simp; try omega)).trans (by go_simp)
      have d1_4 : w1.cell? ⟨w.heap.size + 1, 4, none⟩ = some (.int .i64 md) := (hc1 _ _ (by simp; try omega)).trans (by go_simp)
      have df1_0 : w1.frozen? ⟨w.heap.size + 1, 0, none⟩ = false := (hf1 _ _ (by simp; try omega)).trans (by go_simp)
      have df1_1 : w1.frozen? ⟨w.heap.size + 1, 1, none⟩ = false := (hf1 _ _ (by simp; try omega)).trans (by go_simp)
      have df1_2 : w1.frozen? ⟨w.heap.size + 1, 2, none⟩ = false := (hf1 _ _ (by simp; try omega)).trans (by go_simp)
      have df1_3 : w1.frozen? ⟨w.heap.size + 1, 3, none⟩ = false := (hf1 _ _ (by simp; try omega)).trans (by go_simp)
      have df1_4 : w1.frozen? ⟨w.heap.size + 1, 4, none⟩ = false := (hf1 _ _ (by simp; try omega)).trans (by go_simp)
      have d2_0 : w1.cell? ⟨w.heap.size + 2, 0, none⟩ = some (.int .i64 0) := (hc1 _ _ (by simp; try omega)).trans (by go_simp)
      have d2_1 : w1.cell? ⟨w.heap.size + 2, 1, none⟩ = some (.int .i64 0) := (hc1 _ _ (by simp; try omega)).trans (by go_simp)
      have d2_2 : w1.cell? ⟨w.heap.size + 2, 2, none⟩ = some (.int .i64 0) := (hc1 _ _ (by simp; try omega)).trans (by go_simp)
      have d2_3 : w1.cell? ⟨w.heap.size + 2, 3, none⟩ = some (.int .i64 0) := (hc1 _ _ (by simp; try omega)).trans (by go_simp)
      have d2_4 : w1.cell? ⟨w.heap.size + 2, 4, none⟩ = some (.int .i64 0) := (hc1 _ _ (by simp; try omega)).trans (by go_simp)
      have df2_0 : w1.frozen? ⟨w.heap.size + 2, 0, none⟩ = false := (hf1 _ _ (by simp; try omega)).trans (by go_simp)
      have df2_1 : w1.frozen? ⟨w.heap.size + 2, 1, none⟩ = false := (hf1 _ _ (by simp; try omega)).trans (by go_simp)
      have df2_2 : w1.frozen? ⟨w.heap.size + 2, 2, none⟩ = false := (hf1 _ _ (by simp; try omega)).trans (by go_simp)
      have df2_3 : w1.frozen? ⟨w.heap.size + 2, 3, none⟩ = false := (hf1 _ _ (by simp; try omega)).trans (by go_simp)
      have df2_4 : w1.frozen? ⟨w.heap.size + 2, 4, none⟩ = false := (hf1 _ _ (by simp; try omega)).trans (by go_simp)
      clear hc1 hf1
      go_wp2_with fail
      refine bodyPost_ret (v := .agg #[.int .i64 a, .int .i64 g, .int .i64 s, .int .i64 t, .int .i64 3]) (by simp [results, Tryz.results55, go_sem, d2_0, d2_1, d2_2, d2_3, d2_4]) rfl ⟨by rw [HA.out, HM.out], ?_⟩
      repeat (with_reducible refine Below.setCell ?_ (by simp; try omega) _)
      exact (HB.out _ _ _).trans (hb1.mono (by simp; omega))
    · have HM := hide (stM_clr he ho2 hq)
      have HA : Hid (stA T mg st first a g s t = nxtD a g) := hide (by unfold stA; rw [HM.out]; rfl)
      go_enter Tryz.func55, Tryz.ntmps55
      go_wp2_with (first | (go_at_call 67; refine (l02Turn_any _ _ (by omega) (by omega) (by omega) (by omega) _).mono ?_; rintro e w' ⟨rfl, hw⟩; obtain rfl := hw.symm) | (go_at_call 68; refine (l02Mod_any _ (by omega) (by omega) _).mono ?_; rintro e w' ⟨rfl, hw⟩; obtain rfl := hw.symm; rw [← HN.out]))
      refine (l19Guard_any A n c lo hi T ok (mg + t) first (nxtD a g) s (by omega) (by omega) n1 n2 s1 s2 _ (HR.out _ _ _) (by simp; omega)).mono ?_
      rintro e w1 ⟨rfl, hb1⟩
      rw [hq]
      obtain ⟨hc1, hf1⟩ := bcell hb1
      have hs1 := hb1.size
      simp at hs1
      have d0_0 : w1.cell? ⟨w.heap.size, 0, none⟩ = some (.int .i64 mg) := (hc1 _ _ (by simp; try omega)).trans (by go_simp)
      have d0_1 : w1.cell? ⟨w.heap.size, 1, none⟩ = some (.int .i64 st) := (hc1 _ _ (by simp; try omega)).trans (by go_simp)
      have d1_0 : w1.cell? ⟨w.heap.size + 1, 0, none⟩ = some (.int .i64 a) := (hc1 _ _ (by simp; try omega)).trans (by go_simp)
      have d1_1 : w1.cell? ⟨w.heap.size + 1, 1, none⟩ = some (.int .i64 g) := (hc1 _ _ (by simp; try omega)).trans (by go_simp)
      have d1_2 : w1.cell? ⟨w.heap.size + 1, 2, none⟩ = some (.int .i64 s) := (hc1 _ _ (by simp; try omega)).trans (by go_simp)
      have d1_3 : w1.cell? ⟨w.heap.size + 1, 3, none⟩ = some (.int .i64 t) := (hc1 _ _ (by simp; try omega)).trans (by go_simp)
      have d1_4 : w1.cell? ⟨w.heap.size + 1, 4, none⟩ = some (.int .i64 md) := (hc1 _ _ (by simp; try omega)).trans (by go_simp)
      have df1_0 : w1.frozen? ⟨w.heap.size + 1, 0, none⟩ = false := (hf1 _ _ (by simp; try omega)).trans (by go_simp)
      have df1_1 : w1.frozen? ⟨w.heap.size + 1, 1, none⟩ = false := (hf1 _ _ (by simp; try omega)).trans (by go_simp)
      have df1_2 : w1.frozen? ⟨w.heap.size + 1, 2, none⟩ = false := (hf1 _ _ (by simp; try omega)).trans (by go_simp)
      have df1_3 : w1.frozen? ⟨w.heap.size + 1, 3, none⟩ = false := (hf1 _ _ (by simp; try omega)).trans (by go_simp)
      have df1_4 : w1.frozen? ⟨w.heap.size + 1, 4, none⟩ = false := (hf1 _ _ (by simp; try omega)).trans (by go_simp)
      have d2_0 : w1.cell? ⟨w.heap.size + 2, 0, none⟩ = some (.int .i64 0) := (hc1 _ _ (by simp; try omega)).trans (by go_simp)
      have d2_1 : w1.cell? ⟨w.heap.size + 2, 1, none⟩ = some (.int .i64 0) := (hc1 _ _ (by simp; try omega)).trans (by go_simp)
      have d2_2 : w1.cell? ⟨w.heap.size + 2, 2, none⟩ = some (.int .i64 0) := (hc1 _ _ (by simp; try omega)).trans (by go_simp)
      have d2_3 : w1.cell? ⟨w.heap.size + 2, 3, none⟩ = some (.int .i64 0) := (hc1 _ _ (by simp; try omega)).trans (by go_simp)
      have d2_4 : w1.cell? ⟨w.heap.size + 2, 4, none⟩ = some (.int .i64 0) := (hc1 _ _ (by simp; try omega)).trans (by go_simp)
      have df2_0 : w1.frozen? ⟨w.heap.size + 2, 0, none⟩ = false := (hf1 _ _ (by simp; try omega)).trans (by go_simp)
      have df2_1 : w1.frozen? ⟨w.heap.size + 2, 1, none⟩ = false := (hf1 _ _ (by simp; try omega)).trans (by go_simp)
      have df2_2 : w1.frozen? ⟨w.heap.size + 2, 2, none⟩ = false := (hf1 _ _ (by simp; try omega)).trans (by go_simp)
      have df2_3 : w1.frozen? ⟨w.heap.size + 2, 3, none⟩ = false := (hf1 _ _ (by simp; try omega)).trans (by go_simp)
      have df2_4 : w1.frozen? ⟨w.heap.size + 2, 4, none⟩ = false := (hf1 _ _ (by simp; try omega)).trans (by go_simp)
      clear hc1 hf1
      go_wp2_with fail
      refine bodyPost_ret (v := .agg #[.int .i64 (nxtD a g), .int .i64 g, .int .i64 s, .int .i64 t, .int .i64 2]) (by simp [results, Tryz.results55, go_sem, d2_0, d2_1, d2_2, d2_3, d2_4]) rfl ⟨by rw [HA.out, HM.out], ?_⟩
      repeat (with_reducible refine Below.setCell ?_ (by simp; try omega) _)
      exact (HB.out _ _ _).trans (hb1.mono (by simp; omega))

set_option maxRecDepth 100000 in
set_option maxHeartbeats 4000000 in
theorem implStep_any (A : Option Addr) (n c lo hi : Nat) (T : List (List Bool)) (ok : okT T = true) (mg st : Int) (first : Bool) (a g s t md : Int) (h1 : 0 ≤ mg) (h2 : mg ≤ 3) (h3 : 0 ≤ st) (h4 : st ≤ 6) (a1 : 0 ≤ a) (a2 : a ≤ 23) (g1 : 0 ≤ g) (g2 : g ≤ 23) (s1 : 0 ≤ s) (s2 : s ≤ 23) (t1 : 0 ≤ t) (t2 : t ≤ 200) (w : World) (h : RdSS w lo hi A n (rrBool T)) (hhi : hi ≤ w.heap.size) :
    Calls Tryz.prog 52 #[.agg #[.int .i64 a, .int .i64 g, .int .i64 s, .int .i64 t, .int .i64 md], .slice A n c, .agg #[.int .i64 mg, .int .i64 st], .bool first] w fun e w' => e = .returned (.agg #[.int .i64 (stA T mg st first a g s t), .int .i64 g, .int .i64 s, .int .i64 t, .int .i64 (stM T mg st first a g s t)]) ∧ Below w.heap.size w w' := by
  have BB : ∀ o1 o2 o3 : Obj, Below w.heap.size w (((w.alloc o1).alloc o2).alloc o3) := fun o1 o2 o3 => (((Below.refl _ _).alloc (Nat.le_refl _) _).alloc (by simp) _).alloc (by simp; omega) _
  have H3 : ∀ o1 o2 o3 : Obj, RdSS (((w.alloc o1).alloc o2).alloc o3) lo hi A n (rrBool T) := fun o1 o2 o3 => h.below (BB o1 o2 o3) hhi
  have HB := hide BB
  have HR := hide H3
  clear BB H3 h
  by_cases he : a = g
  · subst he
    have HM := hide (stM_eq (T := T) (mg := mg) (st := st) (first := first) (a := a) (s := s) (t := t))
    have HA : Hid (stA T mg st first a a s t = a) := hide (by unfold stA; rw [HM.out]; rfl)
    have hz : trn a a = 0 := by unfold trn; split <;> omega
    have hz1 : ¬ trn a a < 0 := by omega
    have hz2 : 0 ≤ trn a a := by omega
    clear hz
    go_enter Tryz.func52, Tryz.ntmps52
    go_wp2_with (first | (go_at_call 63; refine (turnBetween_any _ _ (by omega) (by omega) (by omega) (by omega) _).mono ?_; rintro e w' ⟨rfl, hw⟩; obtain rfl := hw.symm) | (go_at_call 64; refine (turned_any _ _ (by omega) (by omega) (by omega) (by omega) _).mono ?_; rintro e w' ⟨rfl, hw⟩; obtain rfl := hw.symm))
    refine bodyPost_ret (v := .agg #[.int .i64 a, .int .i64 a, .int .i64 s, .int .i64 t, .int .i64 1]) (by simp [results, Tryz.results52, go_sem]) rfl ⟨by rw [HA.out, HM.out], ?_⟩
    repeat (with_reducible refine Below.setCell ?_ (by simp; try omega) _)
    exact HB.out _ _ _
  have heb : (a == g) = false := by simpa using he
  by_cases ho : t > st
  · have HM := hide (stM_old (T := T) (mg := mg) (first := first) (s := s) he ho)
    have HA : Hid (stA T mg st first a g s t = a) := hide (by unfold stA; rw [HM.out]; rfl)
    by_cases hz : trn a g < 0
    · go_enter Tryz.func52, Tryz.ntmps52
      go_wp2_with (first | (go_at_call 63; refine (turnBetween_any _ _ (by omega) (by omega) (by omega) (by omega) _).mono ?_; rintro e w' ⟨rfl, hw⟩; obtain rfl := hw.symm) | (go_at_call 64; refine (turned_any _ _ (by omega) (by omega) (by omega) (by omega) _).mono ?_; rintro e w' ⟨rfl, hw⟩; obtain rfl := hw.symm))
      refine bodyPost_ret (v := .agg #[.int .i64 a, .int .i64 g, .int .i64 s, .int .i64 t, .int .i64 4]) (by simp [results, Tryz.results52, go_sem]) rfl ⟨by rw [HA.out, HM.out], ?_⟩
      repeat (with_reducible refine Below.setCell ?_ (by simp; try omega) _)
      exact HB.out _ _ _
    · have hz2 : 0 ≤ trn a g := by omega
      go_enter Tryz.func52, Tryz.ntmps52
      go_wp2_with (first | (go_at_call 63; refine (turnBetween_any _ _ (by omega) (by omega) (by omega) (by omega) _).mono ?_; rintro e w' ⟨rfl, hw⟩; obtain rfl := hw.symm) | (go_at_call 64; refine (turned_any _ _ (by omega) (by omega) (by omega) (by omega) _).mono ?_; rintro e w' ⟨rfl, hw⟩; obtain rfl := hw.symm))
      refine bodyPost_ret (v := .agg #[.int .i64 a, .int .i64 g, .int .i64 s, .int .i64 t, .int .i64 4]) (by simp [results, Tryz.results52, go_sem]) rfl ⟨by rw [HA.out, HM.out], ?_⟩
      repeat (with_reducible refine Below.setCell ?_ (by simp; try omega) _)
      exact HB.out _ _ _
  have ho2 : t ≤ st := by omega
  have hnx : nxtD a g = (a + (if trn a g < 0 then -1 else 1)) % 24 := rfl
  by_cases hz : trn a g < 0
  · rw [if_pos hz] at hnx
    have HN := hide hnx
    clear hnx
    obtain ⟨n1, n2⟩ := nxtD_bd a g
    cases hq : clr T first (nxtD a g) s (mg + t)
    · have HM := hide (stM_bad he ho2 hq)
      have HA : Hid (stA T mg st first a g s t = a) := hide (by unfold stA; rw [HM.out]; rfl)
      go_enter Tryz.func52, Tryz.ntmps52
      go_wp2_with (first | (go_at_call 63; refine (turnBetween_any _ _ (by omega) (by omega) (by omega) (by omega) _).mono ?_; rintro e w' ⟨rfl, hw⟩; obtain rfl := hw.symm) | (go_at_call 64; refine (turned_any _ _ (by omega) (by omega) (by omega) (by omega) _).mono ?_; rintro e w' ⟨rfl, hw⟩; obtain rfl := hw.symm; first | rw [show tur a (-1) = nxtD a g from HN.out.symm] | rw [show tur a 1 = nxtD a g from HN.out.symm]))
      refine (clear_any A n c lo hi T ok (mg + t) first (nxtD a g) s (by omega) (by omega) n1 n2 s1 s2 _ (HR.out _ _ _) (by simp; omega)).mono ?_
      rintro e w1 ⟨rfl, hb1⟩
      rw [hq]
      obtain ⟨hc1, hf1⟩ := bcell hb1
      have hs1 := hb1.size
      simp at hs1
      have d1_0 : w1.cell? ⟨w.heap.size + 1, 0, none⟩ = some (.int .i64 mg) := (hc1 _ _ (by simp; try omega)).trans (by go_simp)
      have d1_1 : w1.cell? ⟨w.heap.size + 1, 1, none⟩ = some (.int .i64 st) := (hc1 _ _ (by simp; try omega)).trans (by go_simp)
      have d0_0 : w1.cell? ⟨w.heap.size, 0, none⟩ = some (.int .i64 a) := (hc1 _ _ (by simp; try omega)).trans (by go_simp)
      have d0_1 : w1.cell? ⟨w.heap.size, 1, none⟩ = some (.int .i64 g) := (hc1 _ _ (by simp; try omega)).trans (by go_simp)
      have d0_2 : w1.cell? ⟨w.heap.size, 2, none⟩ = some (.int .i64 s) := (hc1 _ _ (by simp; try omega)).trans (by go_simp)
      have d0_3 : w1.cell? ⟨w.heap.size, 3, none⟩ = some (.int .i64 t) := (hc1 _ _ (by simp; try omega)).trans (by go_simp)
      have d0_4 : w1.cell? ⟨w.heap.size, 4, none⟩ = some (.int .i64 md) := (hc1 _ _ (by simp; try omega)).trans (by go_simp)
      have df0_0 : w1.frozen? ⟨w.heap.size, 0, none⟩ = false := (hf1 _ _ (by simp; try omega)).trans (by go_simp)
      have df0_1 : w1.frozen? ⟨w.heap.size, 1, none⟩ = false := (hf1 _ _ (by simp; try omega)).trans (by go_simp)
      have df0_2 : w1.frozen? ⟨w.heap.size, 2, none⟩ = false := (hf1 _ _ (by simp; try omega)).trans (by go_simp)
      have df0_3 : w1.frozen? ⟨w.heap.size, 3, none⟩ = false := (hf1 _ _ (by simp; try omega)).trans (by go_simp)
      have df0_4 : w1.frozen? ⟨w.heap.size, 4, none⟩ = false := (hf1 _ _ (by simp; try omega)).trans (by go_simp)
      have d2_0 : w1.cell? ⟨w.heap.size + 2, 0, none⟩ = some (.int .i64 0) := (hc1 _ _ (by simp; try omega)).trans (by go_simp)
      have d2_1 : w1.cell? ⟨w.heap.size + 2, 1, none⟩ = some (.int .i64 0) := (hc1 _ _ (by simp; try omega)).trans (by go_simp)
      have d2_2 : w1.cell? ⟨w.heap.size + 2, 2, none⟩ = some (.int .i64 0) := (hc1 _ _ (by simp; try omega)).trans (by go_simp)
      have d2_3 : w1.cell? ⟨w.heap.size + 2, 3, none⟩ = some (.int .i64 0) := (hc1 _ _ (by simp; try omega)).trans (by go_simp)
      have d2_4 : w1.cell? ⟨w.heap.size + 2, 4, none⟩ = some (.int .i64 0) := (hc1 _ _ (by simp; try omega)).trans (by go_simp)
      have df2_0 : w1.frozen? ⟨w.heap.size + 2, 0, none⟩ = false := (hf1 _ _ (by simp; try omega)).trans (by go_simp)
      have df2_1 : w1.frozen? ⟨w.heap.size + 2, 1, none⟩ = false := (hf1 _ _ (by simp; try omega)).trans (by go_simp)
      have df2_2 : w1.frozen? ⟨w.heap.size + 2, 2, none⟩ = false := (hf1 _ _ (by simp; try omega)).trans (by go_simp)
      have df2_3 : w1.frozen? ⟨w.heap.size + 2, 3, none⟩ = false := (hf1 _ _ (by simp; try omega)).trans (by go_simp)
      have df2_4 : w1.frozen? ⟨w.heap.size + 2, 4, none⟩ = false := (hf1 _ _ (by simp; try omega)).trans (by go_simp)
      clear hc1 hf1
      go_wp2_with fail
      refine bodyPost_ret (v := .agg #[.int .i64 a, .int .i64 g, .int .i64 s, .int .i64 t, .int .i64 3]) (by simp [results, Tryz.results52, go_sem, d2_0, d2_1, d2_2, d2_3, d2_4]) rfl ⟨by rw [HA.out, HM.out], ?_⟩
      repeat (with_reducible refine Below.setCell ?_ (by simp; try omega) _)
      exact (HB.out _ _ _).trans (hb1.mono (by simp; omega))
    · have HM := hide (stM_clr he ho2 hq)
      have HA : Hid (stA T mg st first a g s t = nxtD a g) := hide (by unfold stA; rw [HM.out]; rfl)
      go_enter Tryz.func52, Tryz.ntmps52
      go_wp2_with (first | (go_at_call 63; refine (turnBetween_any _ _ (by omega) (by omega) (by omega) (by omega) _).mono ?_; rintro e w' ⟨rfl, hw⟩; obtain rfl := hw.symm) | (go_at_call 64; refine (turned_any _ _ (by omega) (by omega) (by omega) (by omega) _).mono ?_; rintro e w' ⟨rfl, hw⟩; obtain rfl := hw.symm; first | rw [show tur a (-1) = nxtD a g from HN.out.symm] | rw [show tur a 1 = nxtD a g from HN.out.symm]))
      refine (clear_any A n c lo hi T ok (mg + t) first (nxtD a g) s (by omega) (by omega) n1 n2 s1 s2 _ (HR.out _ _ _) (by simp; omega)).mono ?_
      rintro e w1 ⟨rfl, hb1⟩
      rw [hq]
      obtain ⟨hc1, hf1⟩ := bcell hb1
      have hs1 := hb1.size
      simp at hs1
      have d1_0 : w1.cell? ⟨w.heap.size + 1, 0, none⟩ = some (.int .i64 mg) := (hc1 _ _ (by simp; try omega)).trans (by go_simp)
      have d1_1 : w1.cell? ⟨w.heap.size + 1, 1, none⟩ = some (.int .i64 st) := (hc1 _ _ (by simp; try omega)).trans (by go_simp)
      have d0_0 : w1.cell? ⟨w.heap.size, 0, none⟩ = some (.int .i64 a) := (hc1 _ _ (by simp; try omega)).trans (by go_simp)
      have d0_1 : w1.cell? ⟨w.heap.size, 1, none⟩ = some (.int .i64 g) := (hc1 _ _ (by simp; try omega)).trans (by go_simp)
      have d0_2 : w1.cell? ⟨w.heap.size, 2, none⟩ = some (.int .i64 s) := (hc1 _ _ (by simp; try omega)).trans (by go_simp)
      have d0_3 : w1.cell? ⟨w.heap.size, 3, none⟩ = some (.int .i64 t) := (hc1 _ _ (by simp; try omega)).trans (by go_simp)
      have d0_4 : w1.cell? ⟨w.heap.size, 4, none⟩ = some (.int .i64 md) := (hc1 _ _ (by simp; try omega)).trans (by go_simp)
      have df0_0 : w1.frozen? ⟨w.heap.size, 0, none⟩ = false := (hf1 _ _ (by simp; try omega)).trans (by go_simp)
      have df0_1 : w1.frozen? ⟨w.heap.size, 1, none⟩ = false := (hf1 _ _ (by simp; try omega)).trans (by go_simp)
      have df0_2 : w1.frozen? ⟨w.heap.size, 2, none⟩ = false := (hf1 _ _ (by simp; try omega)).trans (by go_simp)
      have df0_3 : w1.frozen? ⟨w.heap.size, 3, none⟩ = false := (hf1 _ _ (by simp; try omega)).trans (by go_simp)
      have df0_4 : w1.frozen? ⟨w.heap.size, 4, none⟩ = false := (hf1 _ _ (by simp; try omega)).trans (by go_simp)
      have d2_0 : w1.cell? ⟨w.heap.size + 2, 0, none⟩ = some (.int .i64 0) := (hc1 _ _ (by simp; try omega)).trans (by go_simp)
      have d2_1 : w1.cell? ⟨w.heap.size + 2, 1, none⟩ = some (.int .i64 0) := (hc1 _ _ (by simp; try omega)).trans (by go_simp)
      have d2_2 : w1.cell? ⟨w.heap.size + 2, 2, none⟩ = some (.int .i64 0) := (hc1 _ _ (by simp; try omega)).trans (by go_simp)
      have d2_3 : w1.cell? ⟨w.heap.size + 2, 3, none⟩ = some (.int .i64 0) := (hc1 _ _ (by simp; try omega)).trans (by go_simp)
      have d2_4 : w1.cell? ⟨w.heap.size + 2, 4, none⟩ = some (.int .i64 0) := (hc1 _ _ (by simp; try omega)).trans (by go_simp)
      have df2_0 : w1.frozen? ⟨w.heap.size + 2, 0, none⟩ = false := (hf1 _ _ (by simp; try omega)).trans (by go_simp)
      have df2_1 : w1.frozen? ⟨w.heap.size + 2, 1, none⟩ = false := (hf1 _ _ (by simp; try omega)).trans (by go_simp)
      have df2_2 : w1.frozen? ⟨w.heap.size + 2, 2, none⟩ = false := (hf1 _ _ (by simp; try omega)).trans (by go_simp)
      have df2_3 : w1.frozen? ⟨w.heap.size + 2, 3, none⟩ = false := (hf1 _ _ (by simp; try omega)).trans (by go_simp)
      have df2_4 : w1.frozen? ⟨w.heap.size + 2, 4, none⟩ = false := (hf1 _ _ (by simp; try omega)).trans (by go_simp)
      clear hc1 hf1
      go_wp2_with fail
      refine bodyPost_ret (v := .agg #[.int .i64 (nxtD a g), .int .i64 g, .int .i64 s, .int .i64 t, .int .i64 2]) (by simp [results, Tryz.results52, go_sem, d2_0, d2_1, d2_2, d2_3, d2_4]) rfl ⟨by rw [HA.out, HM.out], ?_⟩
      repeat (with_reducible refine Below.setCell ?_ (by simp; try omega) _)
      exact (HB.out _ _ _).trans (hb1.mono (by simp; omega))
  · rw [if_neg hz] at hnx
    have hz2 : 0 ≤ trn a g := by omega
    have HN := hide hnx
    clear hnx
    obtain ⟨n1, n2⟩ := nxtD_bd a g
    cases hq : clr T first (nxtD a g) s (mg + t)
    · have HM := hide (stM_bad he ho2 hq)
      have HA : Hid (stA T mg st first a g s t = a) := hide (by unfold stA; rw [HM.out]; rfl)
      go_enter Tryz.func52, Tryz.ntmps52
      go_wp2_with (first | (go_at_call 63; refine (turnBetween_any _ _ (by omega) (by omega) (by omega) (by omega) _).mono ?_; rintro e w' ⟨rfl, hw⟩; obtain rfl := hw.symm) | (go_at_call 64; refine (turned_any _ _ (by omega) (by omega) (by omega) (by omega) _).mono ?_; rintro e w' ⟨rfl, hw⟩; obtain rfl := hw.symm; first | rw [show tur a (-1) = nxtD a g from HN.out.symm] | rw [show tur a 1 = nxtD a g from HN.out.symm]))
      refine (clear_any A n c lo hi T ok (mg + t) first (nxtD a g) s (by omega) (by omega) n1 n2 s1 s2 _ (HR.out _ _ _) (by simp; omega)).mono ?_
      rintro e w1 ⟨rfl, hb1⟩
      rw [hq]
      obtain ⟨hc1, hf1⟩ := bcell hb1
      have hs1 := hb1.size
      simp at hs1
      have d1_0 : w1.cell? ⟨w.heap.size + 1, 0, none⟩ = some (.int .i64 mg) := (hc1 _ _ (by simp; try omega)).trans (by go_simp)
      have d1_1 : w1.cell? ⟨w.heap.size + 1, 1, none⟩ = some (.int .i64 st) := (hc1 _ _ (by simp; try omega)).trans (by go_simp)
      have d0_0 : w1.cell? ⟨w.heap.size, 0, none⟩ = some (.int .i64 a) := (hc1 _ _ (by simp; try omega)).trans (by go_simp)
      have d0_1 : w1.cell? ⟨w.heap.size, 1, none⟩ = some (.int .i64 g) := (hc1 _ _ (by simp; try omega)).trans (by go_simp)
      have d0_2 : w1.cell? ⟨w.heap.size, 2, none⟩ = some (.int .i64 s) := (hc1 _ _ (by simp; try omega)).trans (by go_simp)
      have d0_3 : w1.cell? ⟨w.heap.size, 3, none⟩ = some (.int .i64 t) := (hc1 _ _ (by simp; try omega)).trans (by go_simp)
      have d0_4 : w1.cell? ⟨w.heap.size, 4, none⟩ = some (.int .i64 md) := (hc1 _ _ (by simp; try omega)).trans (by go_simp)
      have df0_0 : w1.frozen? ⟨w.heap.size, 0, none⟩ = false := (hf1 _ _ (by simp; try omega)).trans (by go_simp)
      have df0_1 : w1.frozen? ⟨w.heap.size, 1, none⟩ = false := (hf1 _ _ (by simp; try omega)).trans (by go_simp)
      have df0_2 : w1.frozen? ⟨w.heap.size, 2, none⟩ = false := (hf1 _ _ (by simp; try omega)).trans (by go_simp)
      have df0_3 : w1.frozen? ⟨w.heap.size, 3, none⟩ = false := (hf1 _ _ (by simp; try omega)).trans (by go_simp)
      have df0_4 : w1.frozen? ⟨w.heap.size, 4, none⟩ = false := (hf1 _ _ (by simp; try omega)).trans (by go_simp)
      have d2_0 : w1.cell? ⟨w.heap.size + 2, 0, none⟩ = some (.int .i64 0) := (hc1 _ _ (by simp; try omega)).trans (by go_simp)
      have d2_1 : w1.cell? ⟨w.heap.size + 2, 1, none⟩ = some (.int .i64 0) := (hc1 _ _ (by simp; try omega)).trans (by go_simp)
      have d2_2 : w1.cell? ⟨w.heap.size + 2, 2, none⟩ = some (.int .i64 0) := (hc1 _ _ (by simp; try omega)).trans (by go_simp)
      have d2_3 : w1.cell? ⟨w.heap.size + 2, 3, none⟩ = some (.int .i64 0) := (hc1 _ _ (by simp; try omega)).trans (by go_simp)
      have d2_4 : w1.cell? ⟨w.heap.size + 2, 4, none⟩ = some (.int .i64 0) := (hc1 _ _ (by simp; try omega)).trans (by go_simp)
      have df2_0 : w1.frozen? ⟨w.heap.size + 2, 0, none⟩ = false := (hf1 _ _ (by simp; try omega)).trans (by go_simp)
      have df2_1 : w1.frozen? ⟨w.heap.size + 2, 1, none⟩ = false := (hf1 _ _ (by simp; try omega)).trans (by go_simp)
      have df2_2 : w1.frozen? ⟨w.heap.size + 2, 2, none⟩ = false := (hf1 _ _ (by simp; try omega)).trans (by go_simp)
      have df2_3 : w1.frozen? ⟨w.heap.size + 2, 3, none⟩ = false := (hf1 _ _ (by simp; try omega)).trans (by go_simp)
      have df2_4 : w1.frozen? ⟨w.heap.size + 2, 4, none⟩ = false := (hf1 _ _ (by simp; try omega)).trans (by go_simp)
      clear hc1 hf1
      go_wp2_with fail
      refine bodyPost_ret (v := .agg #[.int .i64 a, .int .i64 g, .int .i64 s, .int .i64 t, .int .i64 3]) (by simp [results, Tryz.results52, go_sem, d2_0, d2_1, d2_2, d2_3, d2_4]) rfl ⟨by rw [HA.out, HM.out], ?_⟩
      repeat (with_reducible refine Below.setCell ?_ (by simp; try omega) _)
      exact (HB.out _ _ _).trans (hb1.mono (by simp; omega))
    · have HM := hide (stM_clr he ho2 hq)
      have HA : Hid (stA T mg st first a g s t = nxtD a g) := hide (by unfold stA; rw [HM.out]; rfl)
      go_enter Tryz.func52, Tryz.ntmps52
      go_wp2_with (first | (go_at_call 63; refine (turnBetween_any _ _ (by omega) (by omega) (by omega) (by omega) _).mono ?_; rintro e w' ⟨rfl, hw⟩; obtain rfl := hw.symm) | (go_at_call 64; refine (turned_any _ _ (by omega) (by omega) (by omega) (by omega) _).mono ?_; rintro e w' ⟨rfl, hw⟩; obtain rfl := hw.symm; first | rw [show tur a (-1) = nxtD a g from HN.out.symm] | rw [show tur a 1 = nxtD a g from HN.out.symm]))
      refine (clear_any A n c lo hi T ok (mg + t) first (nxtD a g) s (by omega) (by omega) n1 n2 s1 s2 _ (HR.out _ _ _) (by simp; omega)).mono ?_
      rintro e w1 ⟨rfl, hb1⟩
      rw [hq]
      obtain ⟨hc1, hf1⟩ := bcell hb1
      have hs1 := hb1.size
      simp at hs1
      have d1_0 : w1.cell? ⟨w.heap.size + 1, 0, none⟩ = some (.int .i64 mg) := (hc1 _ _ (by simp; try omega)).trans (by go_simp)
      have d1_1 : w1.cell? ⟨w.heap.size + 1, 1, none⟩ = some (.int .i64 st) := (hc1 _ _ (by simp; try omega)).trans (by go_simp)
      have d0_0 : w1.cell? ⟨w.heap.size, 0, none⟩ = some (.int .i64 a) := (hc1 _ _ (by simp; try omega)).trans (by go_simp)
      have d0_1 : w1.cell? ⟨w.heap.size, 1, none⟩ = some (.int .i64 g) := (hc1 _ _ (by simp; try omega)).trans (by go_simp)
      have d0_2 : w1.cell? ⟨w.heap.size, 2, none⟩ = some (.int .i64 s) := (hc1 _ _ (by simp; try omega)).trans (by go_simp)
      have d0_3 : w1.cell? ⟨w.heap.size, 3, none⟩ = some (.int .i64 t) := (hc1 _ _ (by simp; try omega)).trans (by go_simp)
      have d0_4 : w1.cell? ⟨w.heap.size, 4, none⟩ = some (.int .i64 md) := (hc1 _ _ (by simp; try omega)).trans (by go_simp)
      have df0_0 : w1.frozen? ⟨w.heap.size, 0, none⟩ = false := (hf1 _ _ (by simp; try omega)).trans (by go_simp)
      have df0_1 : w1.frozen? ⟨w.heap.size, 1, none⟩ = false := (hf1 _ _ (by simp; try omega)).trans (by go_simp)
      have df0_2 : w1.frozen? ⟨w.heap.size, 2, none⟩ = false := (hf1 _ _ (by simp; try omega)).trans (by go_simp)
      have df0_3 : w1.frozen? ⟨w.heap.size, 3, none⟩ = false := (hf1 _ _ (by simp; try omega)).trans (by go_simp)
      have df0_4 : w1.frozen? ⟨w.heap.size, 4, none⟩ = false := (hf1 _ _ (by simp; try omega)).trans (by go_simp)
      have d2_0 : w1.cell? ⟨w.heap.size + 2, 0, none⟩ = some (.int .i64 0) := (hc1 _ _ (by simp; try omega)).trans (by go_simp)
      have d2_1 : w1.cell? ⟨w.heap.size + 2, 1, none⟩ = some (.int .i64 0) := (hc1 _ _ (by simp; try omega)).trans (by go_simp)
      have d2_2 : w1.cell? ⟨w.heap.size + 2, 2, none⟩ = some (.int .i64 0) := (hc1 _ _ (by simp; try omega)).trans (by go_simp)
      have d2_3 : w1.cell? ⟨w.heap.size + 2, 3, none⟩ = some (.int .i64 0) := (hc1 _ _ (by simp; try omega)).trans (by go_simp)
      have d2_4 : w1.cell? ⟨w.heap.size + 2, 4, none⟩ = some (.int .i64 0) := (hc1 _ _ (by simp; try omega)).trans (by go_simp)
      have df2_0 : w1.frozen? ⟨w.heap.size + 2, 0, none⟩ = false := (hf1 _ _ (by simp; try omega)).trans (by go_simp)
      have df2_1 : w1.frozen? ⟨w.heap.size + 2, 1, none⟩ = false := (hf1 _ _ (by simp; try omega)).trans (by go_simp)
      have df2_2 : w1.frozen? ⟨w.heap.size + 2, 2, none⟩ = false := (hf1 _ _ (by simp; try omega)).trans (by go_simp)
      have df2_3 : w1.frozen? ⟨w.heap.size + 2, 3, none⟩ = false := (hf1 _ _ (by simp; try omega)).trans (by go_simp)
      have df2_4 : w1.frozen? ⟨w.heap.size + 2, 4, none⟩ = false := (hf1 _ _ (by simp; try omega)).trans (by go_simp)
      clear hc1 hf1
      go_wp2_with fail
      refine bodyPost_ret (v := .agg #[.int .i64 (nxtD a g), .int .i64 g, .int .i64 s, .int .i64 t, .int .i64 2]) (by simp [results, Tryz.results52, go_sem, d2_0, d2_1, d2_2, d2_3, d2_4]) rfl ⟨by rw [HA.out, HM.out], ?_⟩
      repeat (with_reducible refine Below.setCell ?_ (by simp; try omega) _)
      exact (HB.out _ _ _).trans (hb1.mono (by simp; omega))

end Go.Proofs.YtnbahmjimnhfbaaGreatDoor
