/-
  FnStrengths: the law answers true at every input, and the input reads behind the call as it read before. No condition.
-/
import Derived.Test.YtjepeibajnlgeaaFrame
import Derived.Test.YtjepeibajnlgeaaFacts
import Derived.WalkKit
import Derived.WalkSpells
import Derived.WalkLawsBesides
import Derived.Deep.RegionWith
import Derived.Deep.DeepCutAuto
import Derived.Test.YtjepeibajnlgeaaStr
import Derived.Test.YtjepeibajnlgeaaOpnByte
import Derived.Test.YtjepeibajnlgeaaBox
namespace Go.Proofs.Ytjepeibajnlgeaa
open Go.ChangeShapes Go.WideShapes Go.ChangeAt Go.RowKit
namespace fnStrengths
set_option linter.unusedVariables false
theorem bft_step : ∀ s : Nat, s ≤ 600 → bft s 12 ≤ bft ((s : Int) + 1) 12 ∧ bft ((s : Int) + 1) 12 ≤ bft s 12 + 1 := by
  decide +kernel
set_option maxRecDepth 100000 in
set_option maxHeartbeats 4000000 in
theorem walk (w : World) (A0 : Option Addr) (n0 c0 : Nat) (l0 : List (Int)) (hl0 : l0.length = n0) (hm0 : n0 ≤ maxLen) (hr0 : Rd w 0 w.heap.size 1 A0 n0 (rByte l0)) (hw0 : ∀ p ∈ l0, (Lit.int .u8 p).wf = true) :
    Calls Try.prog 4 #[.slice A0 n0 c0] w fun e w' => e = .returned (.bool true) ∧ Below w.heap.size w w' := by
  by_cases hn : n0 ≤ 4096
  · have hv0 := rByte_u8 hw0
    have HV := hide hv0
    have HM := hide hm0
    have HRW := hide hr0
    clear hm0 hw0 hv0 hr0 hl0
    go_enter Try.func4, Try.ntmps4
    go_wp2_with fail
    refine (f6big_no A0 n0 c0 hn _).mono ?_
    rintro e w' ⟨rfl, rfl⟩
    go_wp2_with fail
    refine (DrawBeaufortOf_any A0 n0 c0 _ _ HM.out _ HRW.out (Nat.le_refl _) HV.out).mono ?_
    rintro e w1 ⟨s, rfl, hb1⟩
    have HB1 := hide hb1
    have hs1 := hb1.size
    clear hb1
    go_wp2_with fail
    refine (implBeau_any s _).mono ?_
    rintro e w2 ⟨rfl, hb2⟩
    have HB2 := hide (HB1.out.trans (hb2.mono hs1))
    have hs2 := hb2.size
    clear hb2
    go_wp2_with fail
    refine (specBeau_any s _).mono ?_
    rintro e w3 ⟨rfl, hb3⟩
    have HB3 := hide (HB2.out.trans (hb3.mono (by omega)))
    have hs3 := hb3.size
    clear hb3
    go_wp2_with fail
    refine (DrawPressureAt_any A0 n0 c0 _ _ HM.out _ (HRW.out.below HB3.out (Nat.le_refl _)) (by omega) HV.out).mono ?_
    rintro e w4 ⟨q, rfl, hb4⟩
    have HB4 := hide (HB3.out.trans (hb4.mono (by omega)))
    have hs4 := hb4.size
    clear hb4
    go_wp2_with fail
    refine (implPress_any q _).mono ?_
    rintro e w5 ⟨rfl, hb5⟩
    have HB5 := hide (HB4.out.trans (hb5.mono (by omega)))
    have hs5 := hb5.size
    clear hb5
    go_wp2_with fail
    obtain ⟨v5, hv5⟩ : ∃ W : World, W = w5.alloc (.cells #[.int .i64 (prA q), .int .i64 (prB q)] 37) := ⟨_, rfl⟩
    rw [← hv5]
    have k0 : Box v5 w5.heap.size [.int .i64 (prA q), .int .i64 (prB q)] := by rw [hv5]; exact box_at _ _ _ _ rfl
    have HBv5 : Hid (Below w.heap.size w v5) := by rw [hv5]; exact HB5.out.alloc (by omega) _
    have hsv5 : w5.heap.size + 1 ≤ v5.heap.size := by rw [hv5]; simp
    clear hv5
    refine (specPress_any q _).mono ?_
    rintro e w6 ⟨rfl, hb6⟩
    have HB6 := hide (HBv5.out.trans (hb6.mono (by omega)))
    have hs6 := hb6.size
    replace k0 := k0.below hb6 (by omega)
    clear hb6
    go_wp2_with fail
    obtain ⟨v6, hv6⟩ : ∃ W : World, W = w6.alloc (.cells #[.int .i64 (prA q), .int .i64 (prB q)] 37) := ⟨_, rfl⟩
    rw [← hv6]
    have k1 : Box v6 w6.heap.size [.int .i64 (prA q), .int .i64 (prB q)] := by rw [hv6]; exact box_at _ _ _ _ rfl
    replace k0 : Box v6 w5.heap.size [.int .i64 (prA q), .int .i64 (prB q)] := by rw [hv6]; exact k0.alloc (by omega) _
    have HBv6 : Hid (Below w.heap.size w v6) := by rw [hv6]; exact HB6.out.alloc (by omega) _
    have hsv6 : w6.heap.size + 1 ≤ v6.heap.size := by rw [hv6]; simp
    clear hv6
    refine (DrawForceOn_any A0 n0 c0 _ _ HM.out _ (HRW.out.below HBv6.out (Nat.le_refl _)) (by omega) HV.out).mono ?_
    rintro e w7 ⟨f, a, rfl, hb7⟩
    have HB7 := hide (HBv6.out.trans (hb7.mono (by omega)))
    have hs7 := hb7.size
    replace k0 := k0.below hb7 (by omega)
    replace k1 := k1.below hb7 (by omega)
    clear hb7
    go_wp2_with fail
    refine (implForce_any f a _).mono ?_
    rintro e w8 ⟨rfl, hb8⟩
    have HB8 := hide (HB7.out.trans (hb8.mono (by omega)))
    have hs8 := hb8.size
    replace k0 := k0.below hb8 (by omega)
    replace k1 := k1.below hb8 (by omega)
    clear hb8
    go_wp2_with fail
    refine (specForce_any f a _).mono ?_
    rintro e w9 ⟨rfl, hb9⟩
    have HB9 := hide (HB8.out.trans (hb9.mono (by omega)))
    have hs9 := hb9.size
    have c00 := k0.below hb9 (by omega) 0 _ rfl
    have c01 := k0.below hb9 (by omega) 1 _ rfl
    have c10 := k1.below hb9 (by omega) 0 _ rfl
    have c11 := k1.below hb9 (by omega) 1 _ rfl
    clear hb9 k0 k1
    by_cases hsp : spOk s
    · have e1 : bfC s = 0 := by simp [bfC, hsp]
      have e2 : bfN s = (bft s 12 : Int) := by simp [bfN, hsp]
      have p1 : 0 ≤ s := hsp.1
      have p2 : s ≤ 600 := hsp.2
      have hf : foOk s 100 := ⟨⟨p1, p2⟩, by omega, by omega⟩
      have hg : foOk s 200 := ⟨⟨p1, p2⟩, by omega, by omega⟩
      have f1 : foC s 100 = 0 := by simp [foC, hf]
      have f2 : foC s 200 = 0 := by simp [foC, hg]
      have ss : 0 ≤ s * s := Int.mul_nonneg p1 p1
      have g1 : foN s 100 = (s * s * 100 + 16000 - 1) / 16000 := by simp [foN, hf]
      have g2 : foN s 200 = (s * s * 200 + 16000 - 1) / 16000 := by simp [foN, hg]
      have g3 : foN s 100 ≤ foN s 200 := by rw [g1, g2]; omega
      have g4 : 0 ≤ foN s 100 := by rw [g1]; omega
      obtain ⟨ns, rfl⟩ : ∃ k : Nat, s = k := ⟨s.toNat, by omega⟩
      obtain ⟨b1, b2⟩ := bft_step ns (by omega)
      have b3 := bft_le ns 12
      have E2 : bfN ns = (bft ns 12 : Int) := e2
      have E3 : bfN (ns + 1) = (bft ((ns : Int) + 1) 12 : Int) ∨ bfC (ns + 1) ≠ 0 := by
        by_cases h : spOk ((ns : Int) + 1)
        · exact .inl (by simp [bfN, h])
        · exact .inr (by simp [bfC, h])
      have n1 : bfC ((ns : Int) + 1) = 0 → bfN ns ≤ bfN ((ns : Int) + 1) ∧ bfN ((ns : Int) + 1) ≤ bfN ns + 1 := by
        intro h0
        rcases E3 with h | h
        · rw [h, E2]; omega
        · exact absurd h0 h
      have n2 : 0 ≤ bfN ns ∧ bfN ns ≤ 12 := by rw [E2]; omega
      rw [e1]
      clear g1 g2 E3 E2 e2 b1 b2 b3 hf hg hsp e1
      have F1 := hide f1
      have F2 := hide f2
      have N1 := hide n1
      obtain ⟨m1, m2⟩ := n2
      have hsr : (ns : Int) + 1 ≤ 601 := by omega
      clear f1 f2 n1
      generalize bfN ns = x at *
      go_wp2_with fail
      refine (implBeau_any ((ns : Int) + 1) _).mono ?_
      rintro e wa ⟨rfl, hba⟩
      have HBa := hide (HB9.out.trans (hba.mono (by omega)))
      have hsa := hba.size
      clear hba
      by_cases h5 : bfC ((ns : Int) + 1) = 0
      · obtain ⟨y1, y2⟩ := N1.out h5
        rw [h5]
        clear h5
        generalize bfN ((ns : Int) + 1) = y at *
        go_wp2_with fail
        refine (implForce_any (ns : Int) 100 _).mono ?_
        rintro e wb ⟨rfl, hbb⟩
        rw [F1.out]
        have HBb := hide (HBa.out.trans (hbb.mono (by omega)))
        have hsb := hbb.size
        clear hbb
        go_wp2_with fail
        refine (implForce_any (ns : Int) 200 _).mono ?_
        rintro e wc ⟨rfl, hbc⟩
        rw [F2.out]
        have HBc := hide (HBb.out.trans (hbc.mono (by omega)))
        clear hbc
        go_wp2_with fail
        go_ret
        exact ⟨rfl, HBc.out⟩
      · have h6 : (bfC ((ns : Int) + 1) == 0) = false := by simpa using h5
        generalize bfN ((ns : Int) + 1) = y at *
        generalize bfC ((ns : Int) + 1) = z at *
        go_wp2_with fail
        refine (implForce_any (ns : Int) 100 _).mono ?_
        rintro e wb ⟨rfl, hbb⟩
        rw [F1.out]
        have HBb := hide (HBa.out.trans (hbb.mono (by omega)))
        have hsb := hbb.size
        clear hbb
        go_wp2_with fail
        refine (implForce_any (ns : Int) 200 _).mono ?_
        rintro e wc ⟨rfl, hbc⟩
        rw [F2.out]
        have HBc := hide (HBb.out.trans (hbc.mono (by omega)))
        clear hbc
        go_wp2_with fail
        go_ret
        exact ⟨rfl, HBc.out⟩
    · have e1 : bfC s = 2 := by simp [bfC, hsp]
      rw [e1]
      clear e1 hsp
      go_wp2_with fail
      go_ret
      exact ⟨rfl, HB9.out⟩
  · unfold maxLen at hm0
    clear hr0 hw0 hl0
    go_enter Try.func4, Try.ntmps4
    go_wp2_with fail
    refine (f6big_yes A0 n0 c0 (by omega) _).mono ?_
    rintro e w' ⟨rfl, rfl⟩
    go_wp2_with fail
    go_ret
    exact ⟨rfl, Below.refl _ _⟩

set_option maxRecDepth 100000 in
theorem lifted (os : Os) (started : os.Started) (H : Type) (enc : TypeId × Value → H) :
    ReturnsInHanded {} Try.checked os 4 .any (Rows.fnStrengthsSpec.pre6 enc Try.prog Try.f4 Rows.fnStrengthsRow.domain false) (Rows.fnStrengthsSpec.post enc Try.prog Try.f4 false true false false) := by
  refine returnsInHanded_of_change (C := Try.checked) own started (by kernel_rfl) Try.func4
    (ChangeSpec.witness6 (enc := enc) (C := Try.checked) false ⟨#[], #[.slice none 0 0], []⟩ 8 (by kernel_rfl) (by kernel_rfl) (by kernel_rfl) (by kernel_rfl)) ?_
  intro W base args ds gs before hval0 hW hcnd _
  have hval : ∀ (j : Nat) t v, Try.f4.params[j]? = some t → args[j]? = some v → Value.okWide Try.prog W .any base t v := hval0
  have hW' := hW
  obtain ⟨p, q, hA0, hV, rfl, hfz, hnd⟩ := hW
  have hA : DataW.TrodAll enc Try.prog W 0 (fun _ => true) true Try.f4.params.toList args.toList ds p := hA0
  rw [Try.params4] at hA hval
  obtain ⟨v0, vs0, d0, ds0, p0, q0, hargs, rfl, rfl, h0, r0⟩ := trodAll_cons hA
  obtain ⟨rfl, rfl, rfl⟩ := trodAll_nil r0
  obtain rfl : args = #[v0] := by cases args; simp_all
  obtain ⟨rfl, rfl⟩ := trodVars_none hV
  obtain ⟨A0, n0, c0, l0, rfl, hnc0, hcm0, hl0, hr0, hw0⟩ := open_ByteS (hval 0 31 v0 rfl rfl) h0
  clear hA0 hval0
  refine (walk W A0 n0 c0 l0 hl0 (Nat.le_trans hnc0 hcm0) hr0 hw0).mono fun e W' ⟨he, hB⟩ => ?_
  subst he
  exact ⟨_, rfl, law_post laidOut Try.underlying4 rfl (by kernel_rfl) (by kernel_rfl) hW' rfl rfl rfl hB⟩

theorem proved : Rows.FnStrengthsSaid :=
  OpenClaim.holds_of_wide 4 Try.f4 rfl rfl rfl rfl rfl rfl rfl ⟨rfl, rfl, rfl, rfl, rfl⟩ rfl rfl rfl rfl rfl (by kernel_rfl) Try.func4 (joined rfl rfl rfl (by kernel_rfl))
    (of_decide_eq_true (by kernel_rfl)) (by unfold Func.isWrapper; first | (rw [if_pos (by decide +kernel)]; kernel_rfl) | (rw [if_neg (by decide +kernel)]; exact ⟨rfl, rfl⟩))
    (fun os started H enc _ => lifted os started H enc)
#print axioms proved
end fnStrengths
end Go.Proofs.Ytjepeibajnlgeaa
