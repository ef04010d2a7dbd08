/-
  FnExactValidWorld: the law answers true at every input, and the input reads behind the call as it read before. No condition.
-/
import Derived.Test.YtdephdfhopbjpaaFrame
import Derived.Test.YtdephdfhopbjpaaFacts
import Derived.WalkKit
import Derived.WalkSpells
import Derived.WalkLawsBesides
import Derived.Deep.RegionWith
import Derived.Deep.DeepCutAuto
import Derived.Test.YtdephdfhopbjpaaVWorld
namespace Go.Proofs.Ytdephdfhopbjpaa
open Go.ChangeShapes Go.WideShapes Go.ChangeAt Go.RowKit
namespace fnExactValidWorld
set_option linter.unusedVariables false
set_option maxHeartbeats 1000000 in
theorem walk (w : World) (x0_0 x0_1 : Int) (b0_0 : (Lit.int .i64 x0_0).wf = true) (b0_1 : (Lit.int .i64 x0_1).wf = true) (x1_0 x1_1 x1_2 x1_3 x1_4 x1_5 : Int) (b1_0 : (Lit.int .i64 x1_0).wf = true) (b1_1 : (Lit.int .i64 x1_1).wf = true) (b1_2 : (Lit.int .i64 x1_2).wf = true) (b1_3 : (Lit.int .i64 x1_3).wf = true) (b1_4 : (Lit.int .i64 x1_4).wf = true) (b1_5 : (Lit.int .i64 x1_5).wf = true) :
    Calls Try.prog 4 #[.agg #[.int .i64 x0_0, .int .i64 x0_1], .agg #[.int .i64 x1_0, .int .i64 x1_1, .int .i64 x1_2, .int .i64 x1_3, .int .i64 x1_4, .int .i64 x1_5]] w fun e w' => e = .returned (.bool true) ∧ Below w.heap.size w w' := by
  go_enter Try.func4, Try.ntmps4
  go_upto_region 1 with fail
  go_cut [5] (fun s5 wx => s5 = .bool (validW x0_0 x0_1 x1_0 x1_1 x1_2 x1_3 x1_4 x1_5) ∧ Hid (Below (w.heap.size + 2) ((w.alloc (.cells #[.int .i64 x0_0, .int .i64 x0_1] 42)).alloc (.cells #[.int .i64 x1_0, .int .i64 x1_1, .int .i64 x1_2, .int .i64 x1_3, .int .i64 x1_4, .int .i64 x1_5] 44)) wx))
  case first =>
    go_region_with (first | (go_at_call 36; refine (toWatch_any _ _ _).mono ?_; rintro e wx ⟨rfl, hbx⟩; obtain ⟨hcx, hfx⟩ := bcell hbx; have hsx := hbx.size; (try simp at hsx); have hsy : w.heap.size + 1 < wx.heap.size := (by omega); have hsz : w.heap.size < wx.heap.size := (by omega)) | (go_at_call 37; refine (toWorld_any _ _ _ _ _ _ _).mono ?_; rintro e wx ⟨rfl, hbx⟩; obtain ⟨hcx, hfx⟩ := bcell hbx; have hsx := hbx.size; (try simp at hsx); have hsy : w.heap.size + 1 < wx.heap.size := (by omega); have hsz : w.heap.size < wx.heap.size := (by omega)) | (go_at_call 35; refine (specValidWorld_any _ _ _ _ _ _ _ _ _).mono ?_; rintro e wx ⟨rfl, hbx⟩; obtain ⟨hcx, hfx⟩ := bcell hbx; have hsx := hbx.size; (try simp at hsx); have hsy : w.heap.size + 1 < wx.heap.size := (by omega); have hsz : w.heap.size < wx.heap.size := (by omega)))
    all_goals go_wp2_with fail
    all_goals go_meet
    all_goals refine ⟨rfl, ?_⟩
    all_goals show Below _ _ _
    all_goals repeat (first | exact Below.refl _ _ | refine Below.drew ?_ | refine Below.alloc ?_ (by first | omega | (simp; done) | (simp; omega) | (simp at *; omega)) _ | refine Below.setCell ?_ (by first | omega | (simp; done) | (simp; omega) | (simp at *; omega)) _ | refine Below.trans ?_ (Below.mono (by assumption) (by first | omega | (simp; done) | (simp; omega) | (simp at *; omega))))
  case rest =>
    obtain ⟨rfl, hB⟩ := hcut
    have hs0 := hB.out.size
    simp at hs0
    have hsy : w.heap.size + 1 < wc.heap.size := by omega
    have hsz : w.heap.size < wc.heap.size := by omega
    have c00 : wc.cell? ⟨w.heap.size, 0, none⟩ = some (.int .i64 x0_0) := (hB.out.cell (p := ⟨w.heap.size, 0, none⟩) (by show w.heap.size < _; omega)).trans (by go_simp)
    have c01 : wc.cell? ⟨w.heap.size, 1, none⟩ = some (.int .i64 x0_1) := (hB.out.cell (p := ⟨w.heap.size, 1, none⟩) (by show w.heap.size < _; omega)).trans (by go_simp)
    have c10 : wc.cell? ⟨w.heap.size + 1, 0, none⟩ = some (.int .i64 x1_0) := (hB.out.cell (p := ⟨w.heap.size + 1, 0, none⟩) (by show w.heap.size + 1 < _; omega)).trans (by go_simp)
    have c11 : wc.cell? ⟨w.heap.size + 1, 1, none⟩ = some (.int .i64 x1_1) := (hB.out.cell (p := ⟨w.heap.size + 1, 1, none⟩) (by show w.heap.size + 1 < _; omega)).trans (by go_simp)
    have c12 : wc.cell? ⟨w.heap.size + 1, 2, none⟩ = some (.int .i64 x1_2) := (hB.out.cell (p := ⟨w.heap.size + 1, 2, none⟩) (by show w.heap.size + 1 < _; omega)).trans (by go_simp)
    have c13 : wc.cell? ⟨w.heap.size + 1, 3, none⟩ = some (.int .i64 x1_3) := (hB.out.cell (p := ⟨w.heap.size + 1, 3, none⟩) (by show w.heap.size + 1 < _; omega)).trans (by go_simp)
    have c14 : wc.cell? ⟨w.heap.size + 1, 4, none⟩ = some (.int .i64 x1_4) := (hB.out.cell (p := ⟨w.heap.size + 1, 4, none⟩) (by show w.heap.size + 1 < _; omega)).trans (by go_simp)
    have c15 : wc.cell? ⟨w.heap.size + 1, 5, none⟩ = some (.int .i64 x1_5) := (hB.out.cell (p := ⟨w.heap.size + 1, 5, none⟩) (by show w.heap.size + 1 < _; omega)).trans (by go_simp)
    go_wp2_with fail
    go_region_with (first | (go_at_call 36; refine (toWatch_any _ _ _).mono ?_; rintro e wx ⟨rfl, hbx⟩; obtain ⟨hcx, hfx⟩ := bcell hbx; have hsx := hbx.size; (try simp at hsx); have hsy : w.heap.size + 1 < wx.heap.size := (by omega); have hsz : w.heap.size < wx.heap.size := (by omega); have d10 : wx.cell? ⟨w.heap.size + 1, 0, none⟩ = some (.int .i64 x1_0) := (hcx _ _ (by show w.heap.size + 1 < wc.heap.size; assumption)).trans c10; have d11 : wx.cell? ⟨w.heap.size + 1, 1, none⟩ = some (.int .i64 x1_1) := (hcx _ _ (by show w.heap.size + 1 < wc.heap.size; assumption)).trans c11; have d12 : wx.cell? ⟨w.heap.size + 1, 2, none⟩ = some (.int .i64 x1_2) := (hcx _ _ (by show w.heap.size + 1 < wc.heap.size; assumption)).trans c12; have d13 : wx.cell? ⟨w.heap.size + 1, 3, none⟩ = some (.int .i64 x1_3) := (hcx _ _ (by show w.heap.size + 1 < wc.heap.size; assumption)).trans c13; have d14 : wx.cell? ⟨w.heap.size + 1, 4, none⟩ = some (.int .i64 x1_4) := (hcx _ _ (by show w.heap.size + 1 < wc.heap.size; assumption)).trans c14; have d15 : wx.cell? ⟨w.heap.size + 1, 5, none⟩ = some (.int .i64 x1_5) := (hcx _ _ (by show w.heap.size + 1 < wc.heap.size; assumption)).trans c15) | (go_at_call 37; refine (toWorld_any _ _ _ _ _ _ _).mono ?_; rintro e wx ⟨rfl, hbx⟩; obtain ⟨hcx, hfx⟩ := bcell hbx; have hsx := hbx.size; (try simp at hsx); have hsy : w.heap.size + 1 < wx.heap.size := (by omega); have hsz : w.heap.size < wx.heap.size := (by omega)) | (go_at_call 38; refine (implValidWorld_any _ _ _ _ _ _ _ _ _).mono ?_; rintro e wx ⟨rfl, hbx⟩; obtain ⟨hcx, hfx⟩ := bcell hbx; have hsx := hbx.size; (try simp at hsx); have hsy : w.heap.size + 1 < wx.heap.size := (by omega); have hsz : w.heap.size < wx.heap.size := (by omega)))
    all_goals go_wp2_with fail
    all_goals go_ret
    all_goals refine ⟨rfl, ?_⟩
    all_goals
      have hB0 : Below w.heap.size w wc := (((Below.refl _ _).alloc (Nat.le_refl _) _).alloc (by simp) _).trans (hB.out.mono (by omega))
      repeat (first | exact Below.refl _ _ | refine Below.drew ?_ | refine Below.alloc ?_ (by first | omega | (simp; done) | (simp; omega) | (simp at *; omega)) _ | refine Below.setCell ?_ (by first | omega | (simp; done) | (simp; omega) | (simp at *; omega)) _ | refine Below.trans ?_ (Below.mono (by assumption) (by first | omega | (simp; done) | (simp; omega) | (simp at *; omega))))

set_option maxRecDepth 100000 in
theorem lifted (os : Os) (started : os.Started) (H : Type) (enc : TypeId × Value → H) :
    ReturnsInHanded {} Try.checked os 4 .any (Rows.fnExactValidWorldSpec.pre6 enc Try.prog Try.f4 Rows.fnExactValidWorldRow.domain false) (Rows.fnExactValidWorldSpec.post enc Try.prog Try.f4 false true false false) := by
  refine returnsInHanded_of_change (C := Try.checked) own started (by kernel_rfl) Try.func4
    (ChangeSpec.witness6 (enc := enc) (C := Try.checked) false ⟨#[], #[.agg #[.int .i64 0, .int .i64 0], .agg #[.int .i64 0, .int .i64 0, .int .i64 0, .int .i64 0, .int .i64 0, .int .i64 0]], []⟩ 8 (by kernel_rfl) (by kernel_rfl) (by kernel_rfl) (by kernel_rfl)) ?_
  intro W base args ds gs before hval0 hW hcnd _
  have hval : ∀ (j : Nat) t v, Try.f4.params[j]? = some t → args[j]? = some v → Value.okWide Try.prog W .any base t v := hval0
  have hW' := hW
  obtain ⟨p, q, hA0, hV, rfl, hfz, hnd⟩ := hW
  have hA : DataW.TrodAll enc Try.prog W 0 (fun _ => true) true Try.f4.params.toList args.toList ds p := hA0
  rw [Try.params4] at hA hval
  obtain ⟨v0, vs0, d0, ds0, p0, q0, hargs, rfl, rfl, h0, r0⟩ := trodAll_cons hA
  obtain ⟨v1, vs1, d1, ds1, p1, q1, rfl, rfl, rfl, h1, r1⟩ := trodAll_cons r0
  obtain ⟨rfl, rfl, rfl⟩ := trodAll_nil r1
  obtain rfl : args = #[v0, v1] := by cases args; simp_all
  obtain ⟨rfl, rfl⟩ := trodVars_none hV
  obtain ⟨l0, hl0, rfl, hw0⟩ := open_ints_struct (k := .i64) Try.underlying42 (by kernel_rfl) (by kernel_rfl) (hval 0 42 v0 rfl rfl) h0
  obtain ⟨x0_0, x0_1, rfl⟩ := list2 (show l0.length = 2 from hl0)
  obtain ⟨l1, hl1, rfl, hw1⟩ := open_ints_struct (k := .i64) Try.underlying44 (by kernel_rfl) (by kernel_rfl) (hval 1 44 v1 rfl rfl) h1
  obtain ⟨x1_0, x1_1, x1_2, x1_3, x1_4, x1_5, rfl⟩ := list6 (show l1.length = 6 from hl1)
  clear hA0 hval0
  refine (walk W x0_0 x0_1 (hw0 x0_0 (by simp)) (hw0 x0_1 (by simp)) x1_0 x1_1 x1_2 x1_3 x1_4 x1_5 (hw1 x1_0 (by simp)) (hw1 x1_1 (by simp)) (hw1 x1_2 (by simp)) (hw1 x1_3 (by simp)) (hw1 x1_4 (by simp)) (hw1 x1_5 (by simp))).mono fun e W' ⟨he, hB⟩ => ?_
  subst he
  exact ⟨_, rfl, law_post laidOut Try.underlying4 rfl (by kernel_rfl) (by kernel_rfl) hW' rfl rfl rfl hB⟩

theorem proved : Rows.FnExactValidWorldSaid :=
  OpenClaim.holds_of_wide 4 Try.f4 rfl rfl rfl rfl rfl rfl rfl ⟨rfl, rfl, rfl, rfl, rfl⟩ rfl rfl rfl rfl rfl (by kernel_rfl) Try.func4 (joined rfl rfl rfl (by kernel_rfl))
    (of_decide_eq_true (by kernel_rfl)) (by unfold Func.isWrapper; first | (rw [if_pos (by decide +kernel)]; kernel_rfl) | (rw [if_neg (by decide +kernel)]; exact ⟨rfl, rfl⟩))
    (fun os started H enc _ => lifted os started H enc)
#print axioms proved
end fnExactValidWorld
end Go.Proofs.Ytdephdfhopbjpaa
