/-
  StepControl: the reference's and the program's. No condition but those that each theorem names.
-/
import Derived.Test.YtnbahmjimnhfbaaCode
namespace Go.Proofs.Ytnbahmjimnhfbaa
open Go.RowKit
set_option linter.unusedVariables false

theorem codeC_zero {T : List (List Bool)} {mg st : Int} {l : List Ctl} (h : codeC T mg st l = 0) : okT T = true ∧ ruOk mg st = true ∧ ∀ p ∈ l, ctlOkP p = true := by
  unfold codeC at h
  split at h
  · rename_i h1
    split at h
    · rename_i h2
      split at h
      · rename_i h3
        exact ⟨h1, h2, List.all_eq_true.1 h3⟩
      · omega
    · omega
  · omega
theorem rd_new (w : World) (cs : Array Value) (T : TypeId) (n size : Nat) (hn : cs.size = n * size) (l : List Value) (hl : cs.toList = l) (b : Nat) (hb : b = w.heap.size) : Rd (w.alloc (.cells cs T)) b (b + 1) size (some ⟨b, 0, none⟩) n l := by
  subst hl; subst hb
  exact ⟨by simpa using hn, fun _ => ⟨w.heap.size, 0, rfl, Nat.le_refl _, Nat.lt_succ_self _, fun j u hu => by rw [Nat.zero_add, new_cell]; simpa using hu⟩⟩
/-- The result's part: the value if the code is 0. -/
def zv (c x : Int) : Int := if c = 0 then x else 0
theorem zv_bad {c : Int} (h : c ≠ 0) (x : Int) : zv c x = 0 := by simp [zv, h]
theorem zv_ok (x : Int) : zv 0 x = x := by simp [zv]

set_option maxRecDepth 100000 in
set_option maxHeartbeats 4000000 in
theorem specStepControl_any (A : Option Addr) (n c lo hi : Nat) (T : List (List Bool)) (hm : n ≤ maxLen) (mg st : Int) (first : Bool) (a g s t md : Int) (w : World) (h : RdSS w lo hi A n (rrBool T)) (hhi : hi ≤ w.heap.size) :
    Calls Try.prog 33 #[.slice A n c, .agg #[.int .i64 mg, .int .i64 st], .bool first, .agg #[.int .i64 a, .int .i64 g, .int .i64 s, .int .i64 t, .int .i64 md]] w fun e w' => e = .returned (.tuple #[.agg #[.int .i64 (zv (codeC T mg st [(a, g, s, t, md)]) (stA T mg st first a g s t)), .int .i64 (zv (codeC T mg st [(a, g, s, t, md)]) g), .int .i64 (zv (codeC T mg st [(a, g, s, t, md)]) s), .int .i64 (zv (codeC T mg st [(a, g, s, t, md)]) t), .int .i64 (zv (codeC T mg st [(a, g, s, t, md)]) (stM T mg st first a g s t))], .int .i64 (codeC T mg st [(a, g, s, t, md)])]) ∧ Below w.heap.size w w' := by
  have BB : ∀ o1 o2 o3 o4 : Obj, Below w.heap.size w ((((w.alloc o1).alloc o2).alloc o3).alloc o4) := fun o1 o2 o3 o4 => ((((Below.refl _ _).alloc (Nat.le_refl _) _).alloc (by simp) _).alloc (by simp; omega) _).alloc (by simp; omega) _
  have HR := hide (fun o1 o2 o3 o4 => h.below (BB o1 o2 o3 o4) hhi)
  have HH := hide h
  have HL := hide (fun (o1 o2 o3 : Obj) => rd_new (((w.alloc o1).alloc o2).alloc o3) #[.int .i64 a, .int .i64 g, .int .i64 s, .int .i64 t, .int .i64 md] 53 1 5 rfl (rCtl [(a, g, s, t, md)]) rfl (w.heap.size + 3) (by simp))
  have HB := hide BB
  clear BB h
  have ent : ∀ (cc : Int), codeC T mg st [(a, g, s, t, md)] = cc → True := fun _ _ => trivial
  clear ent
  obtain ⟨cc, hcc⟩ : ∃ cc, codeC T mg st [(a, g, s, t, md)] = cc := ⟨_, rfl⟩
  rw [hcc]
  have HC := hide hcc
  clear hcc
  by_cases hz : cc = 0
  · subst hz
    obtain ⟨e0, e1, e2⟩ := codeC_zero HC.out
    obtain ⟨⟨m1, m2⟩, q1, q2⟩ := ruOk_true e1
    obtain ⟨⟨a1, a2⟩, ⟨g1, g2⟩, ⟨s1, s2⟩, ⟨t1, t2⟩, -⟩ := ctlOk_true (e2 _ (List.mem_singleton.2 rfl))
    have E0 := hide e0
    clear e0 e1 e2
    go_enter Try.func33, Try.ntmps33
    go_wp2_with fail
    refine (l18Code_any A n c lo hi T hm mg st _ 1 1 (w.heap.size + 3) (w.heap.size + 4) [(a, g, s, t, md)] rfl (by omega) _ (HR.out _ _ _ _) (by simp; omega) (HL.out _ _ _) (by simp)).mono ?_
    rintro e w1 ⟨rfl, hb1⟩
    rw [HC.out]
    obtain ⟨hc1, hf1⟩ := bcell hb1
    have hs1 := hb1.size
    simp at hs1
    have l0 : w.heap.size < w1.heap.size := by omega
    have d0_0 : w1.cell? ⟨w.heap.size, 0, none⟩ = some (.int .i64 mg) := (hc1 _ _ (by simp; try omega)).trans (by go_simp)
    have d0_1 : w1.cell? ⟨w.heap.size, 1, none⟩ = some (.int .i64 st) := (hc1 _ _ (by simp; try omega)).trans (by go_simp)
    have l1 : w.heap.size + 1 < w1.heap.size := by omega
    have d1_0 : w1.cell? ⟨w.heap.size + 1, 0, none⟩ = some (.int .i64 a) := (hc1 _ _ (by simp; try omega)).trans (by go_simp)
    have d1_1 : w1.cell? ⟨w.heap.size + 1, 1, none⟩ = some (.int .i64 g) := (hc1 _ _ (by simp; try omega)).trans (by go_simp)
    have d1_2 : w1.cell? ⟨w.heap.size + 1, 2, none⟩ = some (.int .i64 s) := (hc1 _ _ (by simp; try omega)).trans (by go_simp)
    have d1_3 : w1.cell? ⟨w.heap.size + 1, 3, none⟩ = some (.int .i64 t) := (hc1 _ _ (by simp; try omega)).trans (by go_simp)
    have d1_4 : w1.cell? ⟨w.heap.size + 1, 4, none⟩ = some (.int .i64 md) := (hc1 _ _ (by simp; try omega)).trans (by go_simp)
    have l2 : w.heap.size + 2 < w1.heap.size := by omega
    have d2_0 : w1.cell? ⟨w.heap.size + 2, 0, none⟩ = some (.int .i64 0) := (hc1 _ _ (by simp; try omega)).trans (by go_simp)
    have d2_1 : w1.cell? ⟨w.heap.size + 2, 1, none⟩ = some (.int .i64 0) := (hc1 _ _ (by simp; try omega)).trans (by go_simp)
    have d2_2 : w1.cell? ⟨w.heap.size + 2, 2, none⟩ = some (.int .i64 0) := (hc1 _ _ (by simp; try omega)).trans (by go_simp)
    have d2_3 : w1.cell? ⟨w.heap.size + 2, 3, none⟩ = some (.int .i64 0) := (hc1 _ _ (by simp; try omega)).trans (by go_simp)
    have d2_4 : w1.cell? ⟨w.heap.size + 2, 4, none⟩ = some (.int .i64 0) := (hc1 _ _ (by simp; try omega)).trans (by go_simp)
    have f2_0 : w1.frozen? ⟨w.heap.size + 2, 0, none⟩ = false := (hf1 _ _ (by simp; try omega)).trans (by go_simp)
    have f2_1 : w1.frozen? ⟨w.heap.size + 2, 1, none⟩ = false := (hf1 _ _ (by simp; try omega)).trans (by go_simp)
    have f2_2 : w1.frozen? ⟨w.heap.size + 2, 2, none⟩ = false := (hf1 _ _ (by simp; try omega)).trans (by go_simp)
    have f2_3 : w1.frozen? ⟨w.heap.size + 2, 3, none⟩ = false := (hf1 _ _ (by simp; try omega)).trans (by go_simp)
    have f2_4 : w1.frozen? ⟨w.heap.size + 2, 4, none⟩ = false := (hf1 _ _ (by simp; try omega)).trans (by go_simp)
    have HB1 := hide ((HB.out _ _ _ _).trans (hb1.mono (by simp; omega)))
    clear hc1 hf1
    go_wp2_with fail
    refine (l18Step_any A n c lo hi T E0.out mg st first a g s t md m1 m2 q1 q2 a1 a2 g1 g2 s1 s2 t1 t2 _ (HH.out.below HB1.out hhi) (by omega)).mono ?_
    rintro e w2 ⟨rfl, hb2⟩
    have hs2 := hb2.size
    have k2 : w.heap.size + 2 < w2.heap.size := by omega
    have e2_0 : w2.cell? ⟨w.heap.size + 2, 0, none⟩ = some (.int .i64 0) := (hb2.cell (p := ⟨w.heap.size + 2, 0, none⟩) l2).trans d2_0
    have g2_0 : w2.frozen? ⟨w.heap.size + 2, 0, none⟩ = false := (hb2.frozen (p := ⟨w.heap.size + 2, 0, none⟩) l2).trans f2_0
    have e2_1 : w2.cell? ⟨w.heap.size + 2, 1, none⟩ = some (.int .i64 0) := (hb2.cell (p := ⟨w.heap.size + 2, 1, none⟩) l2).trans d2_1
    have g2_1 : w2.frozen? ⟨w.heap.size + 2, 1, none⟩ = false := (hb2.frozen (p := ⟨w.heap.size + 2, 1, none⟩) l2).trans f2_1
    have e2_2 : w2.cell? ⟨w.heap.size + 2, 2, none⟩ = some (.int .i64 0) := (hb2.cell (p := ⟨w.heap.size + 2, 2, none⟩) l2).trans d2_2
    have g2_2 : w2.frozen? ⟨w.heap.size + 2, 2, none⟩ = false := (hb2.frozen (p := ⟨w.heap.size + 2, 2, none⟩) l2).trans f2_2
    have e2_3 : w2.cell? ⟨w.heap.size + 2, 3, none⟩ = some (.int .i64 0) := (hb2.cell (p := ⟨w.heap.size + 2, 3, none⟩) l2).trans d2_3
    have g2_3 : w2.frozen? ⟨w.heap.size + 2, 3, none⟩ = false := (hb2.frozen (p := ⟨w.heap.size + 2, 3, none⟩) l2).trans f2_3
    have e2_4 : w2.cell? ⟨w.heap.size + 2, 4, none⟩ = some (.int .i64 0) := (hb2.cell (p := ⟨w.heap.size + 2, 4, none⟩) l2).trans d2_4
    have g2_4 : w2.frozen? ⟨w.heap.size + 2, 4, none⟩ = false := (hb2.frozen (p := ⟨w.heap.size + 2, 4, none⟩) l2).trans f2_4
    have HB2 := hide (HB1.out.trans (hb2.mono (by omega)))
    clear d0_0 d0_1 d1_0 d1_1 d1_2 d1_3 d1_4 d2_0 d2_1 d2_2 d2_3 d2_4 f2_0 f2_1 f2_2 f2_3 f2_4
    go_wp2_with fail
    refine bodyPost_ret (v := .tuple #[.agg #[.int .i64 (stA T mg st first a g s t), .int .i64 g, .int .i64 s, .int .i64 t, .int .i64 (stM T mg st first a g s t)], .int .i64 0]) (by simp [results, Try.results33, go_sem, e2_0, e2_1, e2_2, e2_3, e2_4]) rfl ⟨by simp only [zv_ok], ?_⟩
    repeat (with_reducible refine Below.setCell ?_ (by simp; try omega) _)
    exact HB2.out
  · have hz2 : (cc == 0) = false := by simpa using hz
    have hz3 : (cc != 0) = true := by simpa using hz
    go_enter Try.func33, Try.ntmps33
    go_wp2_with fail
    refine (l18Code_any A n c lo hi T hm mg st _ 1 1 (w.heap.size + 3) (w.heap.size + 4) [(a, g, s, t, md)] rfl (by omega) _ (HR.out _ _ _ _) (by simp; omega) (HL.out _ _ _) (by simp)).mono ?_
    rintro e w1 ⟨rfl, hb1⟩
    rw [HC.out]
    obtain ⟨hc1, hf1⟩ := bcell hb1
    have hs1 := hb1.size
    simp at hs1
    have l0 : w.heap.size < w1.heap.size := by omega
    have d0_0 : w1.cell? ⟨w.heap.size, 0, none⟩ = some (.int .i64 mg) := (hc1 _ _ (by simp; try omega)).trans (by go_simp)
    have d0_1 : w1.cell? ⟨w.heap.size, 1, none⟩ = some (.int .i64 st) := (hc1 _ _ (by simp; try omega)).trans (by go_simp)
    have l1 : w.heap.size + 1 < w1.heap.size := by omega
    have d1_0 : w1.cell? ⟨w.heap.size + 1, 0, none⟩ = some (.int .i64 a) := (hc1 _ _ (by simp; try omega)).trans (by go_simp)
    have d1_1 : w1.cell? ⟨w.heap.size + 1, 1, none⟩ = some (.int .i64 g) := (hc1 _ _ (by simp; try omega)).trans (by go_simp)
    have d1_2 : w1.cell? ⟨w.heap.size + 1, 2, none⟩ = some (.int .i64 s) := (hc1 _ _ (by simp; try omega)).trans (by go_simp)
    have d1_3 : w1.cell? ⟨w.heap.size + 1, 3, none⟩ = some (.int .i64 t) := (hc1 _ _ (by simp; try omega)).trans (by go_simp)
    have d1_4 : w1.cell? ⟨w.heap.size + 1, 4, none⟩ = some (.int .i64 md) := (hc1 _ _ (by simp; try omega)).trans (by go_simp)
    have l2 : w.heap.size + 2 < w1.heap.size := by omega
    have d2_0 : w1.cell? ⟨w.heap.size + 2, 0, none⟩ = some (.int .i64 0) := (hc1 _ _ (by simp; try omega)).trans (by go_simp)
    have d2_1 : w1.cell? ⟨w.heap.size + 2, 1, none⟩ = some (.int .i64 0) := (hc1 _ _ (by simp; try omega)).trans (by go_simp)
    have d2_2 : w1.cell? ⟨w.heap.size + 2, 2, none⟩ = some (.int .i64 0) := (hc1 _ _ (by simp; try omega)).trans (by go_simp)
    have d2_3 : w1.cell? ⟨w.heap.size + 2, 3, none⟩ = some (.int .i64 0) := (hc1 _ _ (by simp; try omega)).trans (by go_simp)
    have d2_4 : w1.cell? ⟨w.heap.size + 2, 4, none⟩ = some (.int .i64 0) := (hc1 _ _ (by simp; try omega)).trans (by go_simp)
    have f2_0 : w1.frozen? ⟨w.heap.size + 2, 0, none⟩ = false := (hf1 _ _ (by simp; try omega)).trans (by go_simp)
    have f2_1 : w1.frozen? ⟨w.heap.size + 2, 1, none⟩ = false := (hf1 _ _ (by simp; try omega)).trans (by go_simp)
    have f2_2 : w1.frozen? ⟨w.heap.size + 2, 2, none⟩ = false := (hf1 _ _ (by simp; try omega)).trans (by go_simp)
    have f2_3 : w1.frozen? ⟨w.heap.size + 2, 3, none⟩ = false := (hf1 _ _ (by simp; try omega)).trans (by go_simp)
    have f2_4 : w1.frozen? ⟨w.heap.size + 2, 4, none⟩ = false := (hf1 _ _ (by simp; try omega)).trans (by go_simp)
    have HB1 := hide ((HB.out _ _ _ _).trans (hb1.mono (by simp; omega)))
    clear hc1 hf1
    go_wp2_with fail
    refine bodyPost_ret (v := .tuple #[.agg #[.int .i64 0, .int .i64 0, .int .i64 0, .int .i64 0, .int .i64 0], .int .i64 cc]) (by simp [results, Try.results33, go_sem, d2_0, d2_1, d2_2, d2_3, d2_4]) rfl ⟨by simp only [zv_bad hz], ?_⟩
    repeat (with_reducible refine Below.setCell ?_ (by simp; try omega) _)
    exact HB1.out

set_option maxRecDepth 100000 in
set_option maxHeartbeats 4000000 in
theorem implStepControl_any (A : Option Addr) (n c lo hi : Nat) (T : List (List Bool)) (hm : n ≤ maxLen) (mg st : Int) (first : Bool) (a g s t md : Int) (w : World) (h : RdSS w lo hi A n (rrBool T)) (hhi : hi ≤ w.heap.size) :
    Calls Try.prog 32 #[.slice A n c, .agg #[.int .i64 mg, .int .i64 st], .bool first, .agg #[.int .i64 a, .int .i64 g, .int .i64 s, .int .i64 t, .int .i64 md]] w fun e w' => e = .returned (.tuple #[.agg #[.int .i64 (zv (codeC T mg st [(a, g, s, t, md)]) (stA T mg st first a g s t)), .int .i64 (zv (codeC T mg st [(a, g, s, t, md)]) g), .int .i64 (zv (codeC T mg st [(a, g, s, t, md)]) s), .int .i64 (zv (codeC T mg st [(a, g, s, t, md)]) t), .int .i64 (zv (codeC T mg st [(a, g, s, t, md)]) (stM T mg st first a g s t))], .int .i64 (codeC T mg st [(a, g, s, t, md)])]) ∧ Below w.heap.size w w' := by
  have BB : ∀ o1 o2 o3 o4 : Obj, Below w.heap.size w ((((w.alloc o1).alloc o2).alloc o3).alloc o4) := fun o1 o2 o3 o4 => ((((Below.refl _ _).alloc (Nat.le_refl _) _).alloc (by simp) _).alloc (by simp; omega) _).alloc (by simp; omega) _
  have HR := hide (fun o1 o2 o3 o4 => h.below (BB o1 o2 o3 o4) hhi)
  have HH := hide h
  have HL := hide (fun (o1 o2 o3 : Obj) => rd_new (((w.alloc o1).alloc o2).alloc o3) #[.int .i64 a, .int .i64 g, .int .i64 s, .int .i64 t, .int .i64 md] 53 1 5 rfl (rCtl [(a, g, s, t, md)]) rfl (w.heap.size + 3) (by simp))
  have HB := hide BB
  clear BB h
  have ent : ∀ (cc : Int), codeC T mg st [(a, g, s, t, md)] = cc → True := fun _ _ => trivial
  clear ent
  obtain ⟨cc, hcc⟩ : ∃ cc, codeC T mg st [(a, g, s, t, md)] = cc := ⟨_, rfl⟩
  rw [hcc]
  have HC := hide hcc
  clear hcc
  by_cases hz : cc = 0
  · subst hz
    obtain ⟨e0, e1, e2⟩ := codeC_zero HC.out
    obtain ⟨⟨m1, m2⟩, q1, q2⟩ := ruOk_true e1
    obtain ⟨⟨a1, a2⟩, ⟨g1, g2⟩, ⟨s1, s2⟩, ⟨t1, t2⟩, -⟩ := ctlOk_true (e2 _ (List.mem_singleton.2 rfl))
    have E0 := hide e0
    clear e0 e1 e2
    go_enter Try.func32, Try.ntmps32
    go_wp2_with fail
    refine (controlCode_any A n c lo hi T hm mg st _ 1 1 (w.heap.size + 3) (w.heap.size + 4) [(a, g, s, t, md)] rfl (by omega) _ (HR.out _ _ _ _) (by simp; omega) (HL.out _ _ _) (by simp)).mono ?_
    rintro e w1 ⟨rfl, hb1⟩
    rw [HC.out]
    obtain ⟨hc1, hf1⟩ := bcell hb1
    have hs1 := hb1.size
    simp at hs1
    have l0 : w.heap.size < w1.heap.size := by omega
    have d0_0 : w1.cell? ⟨w.heap.size, 0, none⟩ = some (.int .i64 mg) := (hc1 _ _ (by simp; try omega)).trans (by go_simp)
    have d0_1 : w1.cell? ⟨w.heap.size, 1, none⟩ = some (.int .i64 st) := (hc1 _ _ (by simp; try omega)).trans (by go_simp)
    have l1 : w.heap.size + 1 < w1.heap.size := by omega
    have d1_0 : w1.cell? ⟨w.heap.size + 1, 0, none⟩ = some (.int .i64 a) := (hc1 _ _ (by simp; try omega)).trans (by go_simp)
    have d1_1 : w1.cell? ⟨w.heap.size + 1, 1, none⟩ = some (.int .i64 g) := (hc1 _ _ (by simp; try omega)).trans (by go_simp)
    have d1_2 : w1.cell? ⟨w.heap.size + 1, 2, none⟩ = some (.int .i64 s) := (hc1 _ _ (by simp; try omega)).trans (by go_simp)
    have d1_3 : w1.cell? ⟨w.heap.size + 1, 3, none⟩ = some (.int .i64 t) := (hc1 _ _ (by simp; try omega)).trans (by go_simp)
    have d1_4 : w1.cell? ⟨w.heap.size + 1, 4, none⟩ = some (.int .i64 md) := (hc1 _ _ (by simp; try omega)).trans (by go_simp)
    have l2 : w.heap.size + 2 < w1.heap.size := by omega
    have d2_0 : w1.cell? ⟨w.heap.size + 2, 0, none⟩ = some (.int .i64 0) := (hc1 _ _ (by simp; try omega)).trans (by go_simp)
    have d2_1 : w1.cell? ⟨w.heap.size + 2, 1, none⟩ = some (.int .i64 0) := (hc1 _ _ (by simp; try omega)).trans (by go_simp)
    have d2_2 : w1.cell? ⟨w.heap.size + 2, 2, none⟩ = some (.int .i64 0) := (hc1 _ _ (by simp; try omega)).trans (by go_simp)
    have d2_3 : w1.cell? ⟨w.heap.size + 2, 3, none⟩ = some (.int .i64 0) := (hc1 _ _ (by simp; try omega)).trans (by go_simp)
    have d2_4 : w1.cell? ⟨w.heap.size + 2, 4, none⟩ = some (.int .i64 0) := (hc1 _ _ (by simp; try omega)).trans (by go_simp)
    have f2_0 : w1.frozen? ⟨w.heap.size + 2, 0, none⟩ = false := (hf1 _ _ (by simp; try omega)).trans (by go_simp)
    have f2_1 : w1.frozen? ⟨w.heap.size + 2, 1, none⟩ = false := (hf1 _ _ (by simp; try omega)).trans (by go_simp)
    have f2_2 : w1.frozen? ⟨w.heap.size + 2, 2, none⟩ = false := (hf1 _ _ (by simp; try omega)).trans (by go_simp)
    have f2_3 : w1.frozen? ⟨w.heap.size + 2, 3, none⟩ = false := (hf1 _ _ (by simp; try omega)).trans (by go_simp)
    have f2_4 : w1.frozen? ⟨w.heap.size + 2, 4, none⟩ = false := (hf1 _ _ (by simp; try omega)).trans (by go_simp)
    have HB1 := hide ((HB.out _ _ _ _).trans (hb1.mono (by simp; omega)))
    clear hc1 hf1
    go_wp2_with fail
    refine (implStep_any A n c lo hi T E0.out mg st first a g s t md m1 m2 q1 q2 a1 a2 g1 g2 s1 s2 t1 t2 _ (HH.out.below HB1.out hhi) (by omega)).mono ?_
    rintro e w2 ⟨rfl, hb2⟩
    have hs2 := hb2.size
    have k2 : w.heap.size + 2 < w2.heap.size := by omega
    have e2_0 : w2.cell? ⟨w.heap.size + 2, 0, none⟩ = some (.int .i64 0) := (hb2.cell (p := ⟨w.heap.size + 2, 0, none⟩) l2).trans d2_0
    have g2_0 : w2.frozen? ⟨w.heap.size + 2, 0, none⟩ = false := (hb2.frozen (p := ⟨w.heap.size + 2, 0, none⟩) l2).trans f2_0
    have e2_1 : w2.cell? ⟨w.heap.size + 2, 1, none⟩ = some (.int .i64 0) := (hb2.cell (p := ⟨w.heap.size + 2, 1, none⟩) l2).trans d2_1
    have g2_1 : w2.frozen? ⟨w.heap.size + 2, 1, none⟩ = false := (hb2.frozen (p := ⟨w.heap.size + 2, 1, none⟩) l2).trans f2_1
    have e2_2 : w2.cell? ⟨w.heap.size + 2, 2, none⟩ = some (.int .i64 0) := (hb2.cell (p := ⟨w.heap.size + 2, 2, none⟩) l2).trans d2_2
    have g2_2 : w2.frozen? ⟨w.heap.size + 2, 2, none⟩ = false := (hb2.frozen (p := ⟨w.heap.size + 2, 2, none⟩) l2).trans f2_2
    have e2_3 : w2.cell? ⟨w.heap.size + 2, 3, none⟩ = some (.int .i64 0) := (hb2.cell (p := ⟨w.heap.size + 2, 3, none⟩) l2).trans d2_3
    have g2_3 : w2.frozen? ⟨w.heap.size + 2, 3, none⟩ = false := (hb2.frozen (p := ⟨w.heap.size + 2, 3, none⟩) l2).trans f2_3
    have e2_4 : w2.cell? ⟨w.heap.size + 2, 4, none⟩ = some (.int .i64 0) := (hb2.cell (p := ⟨w.heap.size + 2, 4, none⟩) l2).trans d2_4
    have g2_4 : w2.frozen? ⟨w.heap.size + 2, 4, none⟩ = false := (hb2.frozen (p := ⟨w.heap.size + 2, 4, none⟩) l2).trans f2_4
    have HB2 := hide (HB1.out.trans (hb2.mono (by omega)))
    clear d0_0 d0_1 d1_0 d1_1 d1_2 d1_3 d1_4 d2_0 d2_1 d2_2 d2_3 d2_4 f2_0 f2_1 f2_2 f2_3 f2_4
    go_wp2_with fail
    refine bodyPost_ret (v := .tuple #[.agg #[.int .i64 (stA T mg st first a g s t), .int .i64 g, .int .i64 s, .int .i64 t, .int .i64 (stM T mg st first a g s t)], .int .i64 0]) (by simp [results, Try.results32, go_sem, e2_0, e2_1, e2_2, e2_3, e2_4]) rfl ⟨by simp only [zv_ok], ?_⟩
    repeat (with_reducible refine Below.setCell ?_ (by simp; try omega) _)
    exact HB2.out
  · have hz2 : (cc == 0) = false := by simpa using hz
    have hz3 : (cc != 0) = true := by simpa using hz
    go_enter Try.func32, Try.ntmps32
    go_wp2_with fail
    refine (controlCode_any A n c lo hi T hm mg st _ 1 1 (w.heap.size + 3) (w.heap.size + 4) [(a, g, s, t, md)] rfl (by omega) _ (HR.out _ _ _ _) (by simp; omega) (HL.out _ _ _) (by simp)).mono ?_
    rintro e w1 ⟨rfl, hb1⟩
    rw [HC.out]
    obtain ⟨hc1, hf1⟩ := bcell hb1
    have hs1 := hb1.size
    simp at hs1
    have l0 : w.heap.size < w1.heap.size := by omega
    have d0_0 : w1.cell? ⟨w.heap.size, 0, none⟩ = some (.int .i64 mg) := (hc1 _ _ (by simp; try omega)).trans (by go_simp)
    have d0_1 : w1.cell? ⟨w.heap.size, 1, none⟩ = some (.int .i64 st) := (hc1 _ _ (by simp; try omega)).trans (by go_simp)
    have l1 : w.heap.size + 1 < w1.heap.size := by omega
    have d1_0 : w1.cell? ⟨w.heap.size + 1, 0, none⟩ = some (.int .i64 a) := (hc1 _ _ (by simp; try omega)).trans (by go_simp)
    have d1_1 : w1.cell? ⟨w.heap.size + 1, 1, none⟩ = some (.int .i64 g) := (hc1 _ _ (by simp; try omega)).trans (by go_simp)
    have d1_2 : w1.cell? ⟨w.heap.size + 1, 2, none⟩ = some (.int .i64 s) := (hc1 _ _ (by simp; try omega)).trans (by go_simp)
    have d1_3 : w1.cell? ⟨w.heap.size + 1, 3, none⟩ = some (.int .i64 t) := (hc1 _ _ (by simp; try omega)).trans (by go_simp)
    have d1_4 : w1.cell? ⟨w.heap.size + 1, 4, none⟩ = some (.int .i64 md) := (hc1 _ _ (by simp; try omega)).trans (by go_simp)
    have l2 : w.heap.size + 2 < w1.heap.size := by omega
    have d2_0 : w1.cell? ⟨w.heap.size + 2, 0, none⟩ = some (.int .i64 0) := (hc1 _ _ (by simp; try omega)).trans (by go_simp)
    have d2_1 : w1.cell? ⟨w.heap.size + 2, 1, none⟩ = some (.int .i64 0) := (hc1 _ _ (by simp; try omega)).trans (by go_simp)
    have d2_2 : w1.cell? ⟨w.heap.size + 2, 2, none⟩ = some (.int .i64 0) := (hc1 _ _ (by simp; try omega)).trans (by go_simp)
    have d2_3 : w1.cell? ⟨w.heap.size + 2, 3, none⟩ = some (.int .i64 0) := (hc1 _ _ (by simp; try omega)).trans (by go_simp)
    have d2_4 : w1.cell? ⟨w.heap.size + 2, 4, none⟩ = some (.int .i64 0) := (hc1 _ _ (by simp; try omega)).trans (by go_simp)
    have f2_0 : w1.frozen? ⟨w.heap.size + 2, 0, none⟩ = false := (hf1 _ _ (by simp; try omega)).trans (by go_simp)
    have f2_1 : w1.frozen? ⟨w.heap.size + 2, 1, none⟩ = false := (hf1 _ _ (by simp; try omega)).trans (by go_simp)
    have f2_2 : w1.frozen? ⟨w.heap.size + 2, 2, none⟩ = false := (hf1 _ _ (by simp; try omega)).trans (by go_simp)
    have f2_3 : w1.frozen? ⟨w.heap.size + 2, 3, none⟩ = false := (hf1 _ _ (by simp; try omega)).trans (by go_simp)
    have f2_4 : w1.frozen? ⟨w.heap.size + 2, 4, none⟩ = false := (hf1 _ _ (by simp; try omega)).trans (by go_simp)
    have HB1 := hide ((HB.out _ _ _ _).trans (hb1.mono (by simp; omega)))
    clear hc1 hf1
    go_wp2_with fail
    refine bodyPost_ret (v := .tuple #[.agg #[.int .i64 0, .int .i64 0, .int .i64 0, .int .i64 0, .int .i64 0], .int .i64 cc]) (by simp [results, Try.results32, go_sem, d2_0, d2_1, d2_2, d2_3, d2_4]) rfl ⟨by simp only [zv_bad hz], ?_⟩
    repeat (with_reducible refine Below.setCell ?_ (by simp; try omega) _)
    exact HB1.out

end Go.Proofs.Ytnbahmjimnhfbaa
