/-
  FnExactFindRoute: the law answers true at every input, and the input reads behind the call as it read before. No condition.
-/
import Derived.Test.YthpoapkdlcoikaaFrame
import Derived.Test.YthpoapkdlcoikaaFacts
import Derived.WalkKit
import Derived.WalkSpells
import Derived.WalkLawsBesides
import Derived.Deep.RegionWith
import Derived.Deep.DeepCutAuto
import Derived.Test.YthpoapkdlcoikaaOpnSBool
import Derived.Test.YthpoapkdlcoikaaOpnInt64
import Derived.Test.YthpoapkdlcoikaaMarkSB
import Derived.Test.YthpoapkdlcoikaaMarkSS
import Derived.Test.YthpoapkdlcoikaaFr
namespace Go.Proofs.Ythpoapkdlcoikaa
open Go.ChangeShapes Go.WideShapes Go.ChangeAt Go.RowKit
namespace fnExactFindRoute
set_option linter.unusedVariables false
set_option maxRecDepth 100000 in
set_option maxHeartbeats 4000000 in
theorem walk (w : World) (A0 : Option Addr) (n0 c0 : Nat) (l0 : List (List Bool)) (hm0 : n0 ≤ maxLen) (hr0 : RdSS w 0 w.heap.size A0 n0 (rrBool l0)) (hw0 : ∀ r ∈ l0, ∀ p ∈ r, True) (A1 : Option Addr) (n1 c1 : Nat) (l1 : List (Int)) (hl1 : l1.length = n1) (hm1 : n1 ≤ maxLen) (hr1 : Rd w 0 w.heap.size 1 A1 n1 (rInt64 l1)) (hw1 : ∀ p ∈ l1, (Lit.int .i64 p).wf = true) (A2 : Option Addr) (n2 c2 : Nat) (l2 : List (Int)) (hl2 : l2.length = n2) (hm2 : n2 ≤ maxLen) (hr2 : Rd w 0 w.heap.size 1 A2 n2 (rInt64 l2)) (hw2 : ∀ p ∈ l2, (Lit.int .i64 p).wf = true) :
    Calls Try.prog 12 #[.slice A0 n0 c0, .slice A1 n1 c1, .slice A2 n2 c2] w fun e w' => e = .returned (.bool true) ∧ Below w.heap.size w w' := by
  by_cases hn1 : n1 ≤ 1048576
  · skip
    by_cases hn2 : n2 ≤ 1048576
    · skip
      by_cases hq : (n0 : Int) + (tot (rrBool l0) n0 : Nat) ≤ 1048576
      · skip
        have hn : n0 ≤ 1048576 := by omega
        have hl0 : l0.length = n0 := by have := hr0.length; rw [rrBool_len] at this; exact this
        have hrow : ∀ r ∈ l0, r.length ≤ 1048576 := fun r hr => by have := rows_small (f := rrBool) (fun k => by rw [rrBool_at, rBool_len1]) hr0.length hl0 hq r hr; omega
        have HROW := hide hrow
        have HROWK : Hid (∀ k, (l0.getD k []).length ≤ 1048576) := hide (fun k => (Nat.lt_or_ge k l0.length).elim (fun hk => by rw [show l0.getD k [] = l0[k] by simp [List.getD, hk]]; exact hrow _ (List.getElem_mem hk)) (fun hk => by simp [List.getD, hk]))
        have HL1 := hide hl1
        have HL2 := hide hl2
        clear hm0 hw0 hrow hl0 hl1 hw1 hm1 hl2 hw2 hm2
        go_enter Try.func12, Try.ntmps12
        go_wp2_with fail
        refine (szBoolSS_ok A0 n0 c0 0 w.heap.size l0 _ hq (by omega) _ hr0).mono ?_
        rintro e w' ⟨rfl, rfl⟩
        have hLn : (frL l0 l1 l2).length ≤ 1048576 := Nat.le_trans (frL_len l0 l1 l2) (by omega)
        have hLr : ∀ r ∈ frL l0 l1 l2, r.length ≤ 1048576 := fun r hr => by rw [frL_row hr]; omega
        have hLk := rrI_row hLr
        have hLl : (rrInt64 (frL l0 l1 l2)).length = (frL l0 l1 l2).length := rrInt64_len _
        have hLt : (1 : Int) + (tot (rrInt64 (frL l0 l1 l2)) (frL l0 l1 l2).length : Nat) ≤ 100000000 := by have := totI_bd (rrInt64 (frL l0 l1 l2)) 24 (rrI_row (q := 24) (fun r hr => by rw [frL_row hr]; omega)) _ (by rw [hLl]; exact Nat.le_refl _); have := frL_len l0 l1 l2; omega
        have HLN := hide hLn
        have HLR := hide hLr
        have HLK := hide hLk
        have HLL := hide hLl
        have HLT := hide hLt
        clear hLn hLr hLk hLl hLt
        go_wp2_with fail
        refine (toBoolSS_any A0 n0 c0 0 w.heap.size l0 hn HROW.out _ hr0 (by omega)).mono ?_
        rintro e w1 ⟨va, rfl, hoa, hb1⟩
        have hs1 := hb1.size
        replace hr0 := hr0.below hb1 (by omega)
        replace hr1 := hr1.below hb1 (by omega)
        replace hr2 := hr2.below hb1 (by omega)
        obtain ⟨Aa, ca, rfl, hnca, hcma, hra⟩ := hoa.rd
        go_wp2_with fail
        refine (toInt64S_any A1 n1 c1 0 w.heap.size l1 hn1 _ HL1.out hr1 (by omega)).mono ?_
        rintro e w2 ⟨va1, rfl, hoa1, hb2⟩
        have hs2 := hb2.size
        replace hr0 := hr0.below hb2 (by omega)
        replace hr1 := hr1.below hb2 (by omega)
        replace hr2 := hr2.below hb2 (by omega)
        replace hra := hra.below hb2 (by omega)
        replace hoa := hoa.below hb2 (by omega)
        obtain ⟨Aa1, ca1, rfl, hnca1, hcma1, hra1⟩ := hoa1.rd
        go_wp2_with fail
        refine (toInt64S_any A2 n2 c2 0 w.heap.size l2 hn2 _ HL2.out hr2 (by omega)).mono ?_
        rintro e w3 ⟨va2, rfl, hoa2, hb3⟩
        have hs3 := hb3.size
        replace hr0 := hr0.below hb3 (by omega)
        replace hr1 := hr1.below hb3 (by omega)
        replace hr2 := hr2.below hb3 (by omega)
        replace hra := hra.below hb3 (by omega)
        replace hoa := hoa.below hb3 (by omega)
        replace hra1 := hra1.below hb3 (by omega)
        replace hoa1 := hoa1.below hb3 (by omega)
        obtain ⟨Aa2, ca2, rfl, hnca2, hcma2, hra2⟩ := hoa2.rd
        go_wp2_with fail
        refine (specFindRoute_any Aa Aa1 Aa2 n0 ca w.heap.size w1.heap.size n1 ca1 w1.heap.size w2.heap.size n2 ca2 w2.heap.size w3.heap.size l0 l1 l2  (by unfold maxLen; omega) HL1.out (by unfold maxLen; omega) HL2.out (by unfold maxLen; omega) _ hra (by omega) hra1 (by omega) hra2 (by omega)).mono ?_
        rintro e w4 ⟨vs, rfl, hos, hb4⟩
        have hs4 := hb4.size
        replace hr0 := hr0.below hb4 (by omega)
        replace hr1 := hr1.below hb4 (by omega)
        replace hr2 := hr2.below hb4 (by omega)
        replace hra := hra.below hb4 (by omega)
        replace hoa := hoa.below hb4 (by omega)
        replace hra1 := hra1.below hb4 (by omega)
        replace hoa1 := hoa1.below hb4 (by omega)
        replace hra2 := hra2.below hb4 (by omega)
        replace hoa2 := hoa2.below hb4 (by omega)
        obtain ⟨As, cs, rfl, hncs, hcms, hrs⟩ := hos.rd
        go_wp2_with fail
        refine (toBoolSS_any A0 n0 c0 0 w.heap.size l0 hn HROW.out _ hr0 (by omega)).mono ?_
        rintro e w5 ⟨vb, rfl, hob, hb5⟩
        have hs5 := hb5.size
        replace hr0 := hr0.below hb5 (by omega)
        replace hr1 := hr1.below hb5 (by omega)
        replace hr2 := hr2.below hb5 (by omega)
        replace hrs := hrs.below hb5 (by omega)
        replace hos := hos.below hb5 (by omega)
        obtain ⟨Ab, cb, rfl, hncb, hcmb, hrb⟩ := hob.rd
        go_wp2_with fail
        refine (toInt64S_any A1 n1 c1 0 w.heap.size l1 hn1 _ HL1.out hr1 (by omega)).mono ?_
        rintro e w6 ⟨vb1, rfl, hob1, hb6⟩
        have hs6 := hb6.size
        replace hr0 := hr0.below hb6 (by omega)
        replace hr1 := hr1.below hb6 (by omega)
        replace hr2 := hr2.below hb6 (by omega)
        replace hrs := hrs.below hb6 (by omega)
        replace hos := hos.below hb6 (by omega)
        replace hrb := hrb.below hb6 (by omega)
        replace hob := hob.below hb6 (by omega)
        obtain ⟨Ab1, cb1, rfl, hncb1, hcmb1, hrb1⟩ := hob1.rd
        go_wp2_with fail
        refine (toInt64S_any A2 n2 c2 0 w.heap.size l2 hn2 _ HL2.out hr2 (by omega)).mono ?_
        rintro e w7 ⟨vb2, rfl, hob2, hb7⟩
        have hs7 := hb7.size
        replace hr0 := hr0.below hb7 (by omega)
        replace hr1 := hr1.below hb7 (by omega)
        replace hr2 := hr2.below hb7 (by omega)
        replace hrs := hrs.below hb7 (by omega)
        replace hos := hos.below hb7 (by omega)
        replace hrb := hrb.below hb7 (by omega)
        replace hob := hob.below hb7 (by omega)
        replace hrb1 := hrb1.below hb7 (by omega)
        replace hob1 := hob1.below hb7 (by omega)
        obtain ⟨Ab2, cb2, rfl, hncb2, hcmb2, hrb2⟩ := hob2.rd
        go_wp2_with fail
        refine (implFindRoute_any Ab Ab1 Ab2 n0 cb w4.heap.size w5.heap.size n1 cb1 w5.heap.size w6.heap.size n2 cb2 w6.heap.size w7.heap.size l0 l1 l2  (by unfold maxLen; omega) HL1.out (by unfold maxLen; omega) HL2.out (by unfold maxLen; omega) _ hrb (by omega) hrb1 (by omega) hrb2 (by omega)).mono ?_
        rintro e w8 ⟨vg, rfl, hog, hb8⟩
        have hs8 := hb8.size
        replace hr0 := hr0.below hb8 (by omega)
        replace hr1 := hr1.below hb8 (by omega)
        replace hr2 := hr2.below hb8 (by omega)
        replace hrs := hrs.below hb8 (by omega)
        replace hos := hos.below hb8 (by omega)
        replace hrb := hrb.below hb8 (by omega)
        replace hob := hob.below hb8 (by omega)
        replace hrb1 := hrb1.below hb8 (by omega)
        replace hob1 := hob1.below hb8 (by omega)
        replace hrb2 := hrb2.below hb8 (by omega)
        replace hob2 := hob2.below hb8 (by omega)
        obtain ⟨Ag, cg, rfl, hncg, hcmg, hrg⟩ := hog.rd
        go_wp2_with fail
        refine (eqInt64SS_same Ag As _ cg cs w7.heap.size w8.heap.size w3.heap.size w4.heap.size (frL l0 l1 l2) HLN.out HLR.out _ hrg hrs (by omega) (by omega)).mono ?_
        rintro e w9 ⟨rfl, hb9⟩
        have hs9 := hb9.size
        replace hr0 := hr0.below hb9 (by omega)
        replace hr1 := hr1.below hb9 (by omega)
        replace hr2 := hr2.below hb9 (by omega)
        replace hrs := hrs.below hb9 (by omega)
        replace hos := hos.below hb9 (by omega)
        replace hrb := hrb.below hb9 (by omega)
        replace hob := hob.below hb9 (by omega)
        replace hrb1 := hrb1.below hb9 (by omega)
        replace hob1 := hob1.below hb9 (by omega)
        replace hrb2 := hrb2.below hb9 (by omega)
        replace hob2 := hob2.below hb9 (by omega)
        replace hrg := hrg.below hb9 (by omega)
        replace hog := hog.below hb9 (by omega)
        go_wp2_with fail
        refine (toBoolSS_any A0 n0 c0 0 w.heap.size l0 hn HROW.out _ hr0 (by omega)).mono ?_
        rintro e w10 ⟨vz, rfl, hoz, hb10⟩
        have hs10 := hb10.size
        replace hr0 := hr0.below hb10 (by omega)
        replace hr1 := hr1.below hb10 (by omega)
        replace hr2 := hr2.below hb10 (by omega)
        replace hrs := hrs.below hb10 (by omega)
        replace hos := hos.below hb10 (by omega)
        replace hrb := hrb.below hb10 (by omega)
        replace hob := hob.below hb10 (by omega)
        replace hrb1 := hrb1.below hb10 (by omega)
        replace hob1 := hob1.below hb10 (by omega)
        replace hrb2 := hrb2.below hb10 (by omega)
        replace hob2 := hob2.below hb10 (by omega)
        replace hrg := hrg.below hb10 (by omega)
        replace hog := hog.below hb10 (by omega)
        obtain ⟨Az, cz, rfl, hncz, hcmz, hrz⟩ := hoz.rd
        go_wp2_with fail
        refine (eqBoolSS_same Ab Az n0 cb cz w4.heap.size w5.heap.size w9.heap.size w10.heap.size l0 hn HROW.out _ hrb hrz (by omega) (by omega)).mono ?_
        rintro e w11 ⟨rfl, hb11⟩
        have hs11 := hb11.size
        replace hr0 := hr0.below hb11 (by omega)
        replace hr1 := hr1.below hb11 (by omega)
        replace hr2 := hr2.below hb11 (by omega)
        replace hrs := hrs.below hb11 (by omega)
        replace hos := hos.below hb11 (by omega)
        replace hrb := hrb.below hb11 (by omega)
        replace hob := hob.below hb11 (by omega)
        replace hrb1 := hrb1.below hb11 (by omega)
        replace hob1 := hob1.below hb11 (by omega)
        replace hrb2 := hrb2.below hb11 (by omega)
        replace hob2 := hob2.below hb11 (by omega)
        replace hrg := hrg.below hb11 (by omega)
        replace hog := hog.below hb11 (by omega)
        replace hrz := hrz.below hb11 (by omega)
        replace hoz := hoz.below hb11 (by omega)
        go_wp2_with fail
        refine (toInt64S_any A1 n1 c1 0 w.heap.size l1 hn1 _ HL1.out hr1 (by omega)).mono ?_
        rintro e w12 ⟨vz1, rfl, hoz1, hb12⟩
        have hs12 := hb12.size
        replace hr0 := hr0.below hb12 (by omega)
        replace hr1 := hr1.below hb12 (by omega)
        replace hr2 := hr2.below hb12 (by omega)
        replace hrs := hrs.below hb12 (by omega)
        replace hos := hos.below hb12 (by omega)
        replace hrb := hrb.below hb12 (by omega)
        replace hob := hob.below hb12 (by omega)
        replace hrb1 := hrb1.below hb12 (by omega)
        replace hob1 := hob1.below hb12 (by omega)
        replace hrb2 := hrb2.below hb12 (by omega)
        replace hob2 := hob2.below hb12 (by omega)
        replace hrg := hrg.below hb12 (by omega)
        replace hog := hog.below hb12 (by omega)
        obtain ⟨Az1, cz1, rfl, hncz1, hcmz1, hrz1⟩ := hoz1.rd
        go_wp2_with fail
        refine (eqInt64S_same Ab1 Az1 n1 cb1 cz1 w5.heap.size w6.heap.size w11.heap.size w12.heap.size l1 hn1 _ HL1.out hrb1 hrz1 (by omega) (by omega)).mono ?_
        rintro e w13 ⟨rfl, hb13⟩
        have hs13 := hb13.size
        replace hr0 := hr0.below hb13 (by omega)
        replace hr1 := hr1.below hb13 (by omega)
        replace hr2 := hr2.below hb13 (by omega)
        replace hrs := hrs.below hb13 (by omega)
        replace hos := hos.below hb13 (by omega)
        replace hrb := hrb.below hb13 (by omega)
        replace hob := hob.below hb13 (by omega)
        replace hrb1 := hrb1.below hb13 (by omega)
        replace hob1 := hob1.below hb13 (by omega)
        replace hrb2 := hrb2.below hb13 (by omega)
        replace hob2 := hob2.below hb13 (by omega)
        replace hrg := hrg.below hb13 (by omega)
        replace hog := hog.below hb13 (by omega)
        replace hrz1 := hrz1.below hb13 (by omega)
        replace hoz1 := hoz1.below hb13 (by omega)
        go_wp2_with fail
        refine (toInt64S_any A2 n2 c2 0 w.heap.size l2 hn2 _ HL2.out hr2 (by omega)).mono ?_
        rintro e w14 ⟨vz2, rfl, hoz2, hb14⟩
        have hs14 := hb14.size
        replace hr0 := hr0.below hb14 (by omega)
        replace hr1 := hr1.below hb14 (by omega)
        replace hr2 := hr2.below hb14 (by omega)
        replace hrs := hrs.below hb14 (by omega)
        replace hos := hos.below hb14 (by omega)
        replace hrb := hrb.below hb14 (by omega)
        replace hob := hob.below hb14 (by omega)
        replace hrb1 := hrb1.below hb14 (by omega)
        replace hob1 := hob1.below hb14 (by omega)
        replace hrb2 := hrb2.below hb14 (by omega)
        replace hob2 := hob2.below hb14 (by omega)
        replace hrg := hrg.below hb14 (by omega)
        replace hog := hog.below hb14 (by omega)
        obtain ⟨Az2, cz2, rfl, hncz2, hcmz2, hrz2⟩ := hoz2.rd
        go_wp2_with fail
        refine (eqInt64S_same Ab2 Az2 n2 cb2 cz2 w6.heap.size w7.heap.size w13.heap.size w14.heap.size l2 hn2 _ HL2.out hrb2 hrz2 (by omega) (by omega)).mono ?_
        rintro e w15 ⟨rfl, hb15⟩
        have hs15 := hb15.size
        replace hr0 := hr0.below hb15 (by omega)
        replace hr1 := hr1.below hb15 (by omega)
        replace hr2 := hr2.below hb15 (by omega)
        replace hrs := hrs.below hb15 (by omega)
        replace hos := hos.below hb15 (by omega)
        replace hrb := hrb.below hb15 (by omega)
        replace hob := hob.below hb15 (by omega)
        replace hrb1 := hrb1.below hb15 (by omega)
        replace hob1 := hob1.below hb15 (by omega)
        replace hrb2 := hrb2.below hb15 (by omega)
        replace hob2 := hob2.below hb15 (by omega)
        replace hrg := hrg.below hb15 (by omega)
        replace hog := hog.below hb15 (by omega)
        replace hrz2 := hrz2.below hb15 (by omega)
        replace hoz2 := hoz2.below hb15 (by omega)
        go_wp2_with fail
        refine (markBoolSS_any _ n0 w4.heap.size w5.heap.size l0 1 (by omega) (by omega) hn HROWK.out _ hob (by omega)).mono ?_
        rintro e w16 ⟨rfl, ht16⟩
        have hs16 := ht16.size
        replace hr0 := hr0.tch ht16 (by omega) (by omega)
        replace hr1 := hr1.tch ht16 (by omega) (by omega)
        replace hr2 := hr2.tch ht16 (by omega) (by omega)
        replace hrs := hrs.tch ht16 (by omega) (by omega)
        replace hos := hos.tch ht16 (by omega)
        replace hrb1 := hrb1.tch ht16 (by omega) (by omega)
        replace hob1 := hob1.tch ht16 (by omega)
        replace hrb2 := hrb2.tch ht16 (by omega) (by omega)
        replace hob2 := hob2.tch ht16 (by omega)
        replace hrg := hrg.tch ht16 (by omega) (by omega)
        replace hog := hog.tch ht16 (by omega)
        go_wp2_with fail
        refine (markInt64S_any _ n1 w5.heap.size w6.heap.size _ _ (by omega) (by omega) hn1 _ hob1 (by omega)).mono ?_
        rintro e w17 ⟨rfl, homhrb1, ht17⟩
        have hs17 := ht17.size
        replace hr0 := hr0.tch ht17 (by omega) (by omega)
        replace hr1 := hr1.tch ht17 (by omega) (by omega)
        replace hr2 := hr2.tch ht17 (by omega) (by omega)
        replace hrs := hrs.tch ht17 (by omega) (by omega)
        replace hos := hos.tch ht17 (by omega)
        replace hrb2 := hrb2.tch ht17 (by omega) (by omega)
        replace hob2 := hob2.tch ht17 (by omega)
        replace hrg := hrg.tch ht17 (by omega) (by omega)
        replace hog := hog.tch ht17 (by omega)
        obtain ⟨_, _, hemhrb1, _, _, hrmhrb1⟩ := homhrb1.rd
        injection hemhrb1 with e1 e2 e3; subst e1; subst e3; clear e2
        go_wp2_with fail
        refine (markInt64S_any _ n2 w6.heap.size w7.heap.size _ _ (by omega) (by omega) hn2 _ hob2 (by omega)).mono ?_
        rintro e w18 ⟨rfl, homhrb2, ht18⟩
        have hs18 := ht18.size
        replace hr0 := hr0.tch ht18 (by omega) (by omega)
        replace hr1 := hr1.tch ht18 (by omega) (by omega)
        replace hr2 := hr2.tch ht18 (by omega) (by omega)
        replace hrs := hrs.tch ht18 (by omega) (by omega)
        replace hos := hos.tch ht18 (by omega)
        replace hrg := hrg.tch ht18 (by omega) (by omega)
        replace hog := hog.tch ht18 (by omega)
        obtain ⟨_, _, hemhrb2, _, _, hrmhrb2⟩ := homhrb2.rd
        injection hemhrb2 with e1 e2 e3; subst e1; subst e3; clear e2
        go_wp2_with fail
        refine (eqInt64SS_same Ag As _ cg cs w7.heap.size w8.heap.size w3.heap.size w4.heap.size (frL l0 l1 l2) HLN.out HLR.out _ hrg hrs (by omega) (by omega)).mono ?_
        rintro e w19 ⟨rfl, hb19⟩
        have hs19 := hb19.size
        replace hr0 := hr0.below hb19 (by omega)
        replace hr1 := hr1.below hb19 (by omega)
        replace hr2 := hr2.below hb19 (by omega)
        replace hrs := hrs.below hb19 (by omega)
        replace hos := hos.below hb19 (by omega)
        replace hrg := hrg.below hb19 (by omega)
        replace hog := hog.below hb19 (by omega)
        go_wp2_with fail
        refine (markInt64SS_any _ _ w7.heap.size w8.heap.size _ 1 (by omega) HLT.out HLN.out HLK.out _ hog (by omega)).mono ?_
        rintro e w20 ⟨rfl, hon, ht20⟩
        have hs20 := ht20.size
        replace hr0 := hr0.tch ht20 (by omega) (by omega)
        replace hr1 := hr1.tch ht20 (by omega) (by omega)
        replace hr2 := hr2.tch ht20 (by omega) (by omega)
        replace hrs := hrs.tch ht20 (by omega) (by omega)
        replace hos := hos.tch ht20 (by omega)
        obtain ⟨_, _, hen, _, _, hrn⟩ := hon.rd
        injection hen with e1 e2 e3; subst e1; subst e3; clear e2
        go_wp2_with fail
        refine (heldInt64SS_any Ag _ cg w7.heap.size w8.heap.size _ 1 (by omega) HLT.out HLN.out HLL.out HLK.out _ hrn).mono ?_
        rintro e w' ⟨rfl, rfl⟩
        go_wp2_with fail
        refine (toBoolSS_any A0 n0 c0 0 w.heap.size l0 hn HROW.out _ hr0 (by omega)).mono ?_
        rintro e w21 ⟨vd, rfl, hod, hb21⟩
        have hs21 := hb21.size
        replace hr0 := hr0.below hb21 (by omega)
        replace hr1 := hr1.below hb21 (by omega)
        replace hr2 := hr2.below hb21 (by omega)
        replace hrs := hrs.below hb21 (by omega)
        replace hos := hos.below hb21 (by omega)
        replace hrn := hrn.below hb21 (by omega)
        replace hon := hon.below hb21 (by omega)
        obtain ⟨Ad, cd, rfl, hncd, hcmd, hrd⟩ := hod.rd
        go_wp2_with fail
        refine (toInt64S_any A1 n1 c1 0 w.heap.size l1 hn1 _ HL1.out hr1 (by omega)).mono ?_
        rintro e w22 ⟨vd1, rfl, hod1, hb22⟩
        have hs22 := hb22.size
        replace hr0 := hr0.below hb22 (by omega)
        replace hr1 := hr1.below hb22 (by omega)
        replace hr2 := hr2.below hb22 (by omega)
        replace hrs := hrs.below hb22 (by omega)
        replace hos := hos.below hb22 (by omega)
        replace hrn := hrn.below hb22 (by omega)
        replace hon := hon.below hb22 (by omega)
        replace hrd := hrd.below hb22 (by omega)
        replace hod := hod.below hb22 (by omega)
        obtain ⟨Ad1, cd1, rfl, hncd1, hcmd1, hrd1⟩ := hod1.rd
        go_wp2_with fail
        refine (toInt64S_any A2 n2 c2 0 w.heap.size l2 hn2 _ HL2.out hr2 (by omega)).mono ?_
        rintro e w23 ⟨vd2, rfl, hod2, hb23⟩
        have hs23 := hb23.size
        replace hr0 := hr0.below hb23 (by omega)
        replace hr1 := hr1.below hb23 (by omega)
        replace hr2 := hr2.below hb23 (by omega)
        replace hrs := hrs.below hb23 (by omega)
        replace hos := hos.below hb23 (by omega)
        replace hrn := hrn.below hb23 (by omega)
        replace hon := hon.below hb23 (by omega)
        replace hrd := hrd.below hb23 (by omega)
        replace hod := hod.below hb23 (by omega)
        replace hrd1 := hrd1.below hb23 (by omega)
        replace hod1 := hod1.below hb23 (by omega)
        obtain ⟨Ad2, cd2, rfl, hncd2, hcmd2, hrd2⟩ := hod2.rd
        go_wp2_with fail
        refine (implFindRoute_any Ad Ad1 Ad2 n0 cd w20.heap.size w21.heap.size n1 cd1 w21.heap.size w22.heap.size n2 cd2 w22.heap.size w23.heap.size l0 l1 l2  (by unfold maxLen; omega) HL1.out (by unfold maxLen; omega) HL2.out (by unfold maxLen; omega) _ hrd (by omega) hrd1 (by omega) hrd2 (by omega)).mono ?_
        rintro e w24 ⟨vh, rfl, hoh, hb24⟩
        have hs24 := hb24.size
        replace hr0 := hr0.below hb24 (by omega)
        replace hr1 := hr1.below hb24 (by omega)
        replace hr2 := hr2.below hb24 (by omega)
        replace hrs := hrs.below hb24 (by omega)
        replace hos := hos.below hb24 (by omega)
        replace hrn := hrn.below hb24 (by omega)
        replace hon := hon.below hb24 (by omega)
        replace hrd := hrd.below hb24 (by omega)
        replace hod := hod.below hb24 (by omega)
        replace hrd1 := hrd1.below hb24 (by omega)
        replace hod1 := hod1.below hb24 (by omega)
        replace hrd2 := hrd2.below hb24 (by omega)
        replace hod2 := hod2.below hb24 (by omega)
        obtain ⟨Ah, ch, rfl, hnch, hcmh, hrh⟩ := hoh.rd
        go_wp2_with fail
        refine (eqInt64SS_same Ah As _ ch cs w23.heap.size w24.heap.size w3.heap.size w4.heap.size (frL l0 l1 l2) HLN.out HLR.out _ hrh hrs (by omega) (by omega)).mono ?_
        rintro e w25 ⟨rfl, hb25⟩
        have hs25 := hb25.size
        replace hr0 := hr0.below hb25 (by omega)
        replace hr1 := hr1.below hb25 (by omega)
        replace hr2 := hr2.below hb25 (by omega)
        replace hrs := hrs.below hb25 (by omega)
        replace hos := hos.below hb25 (by omega)
        replace hrn := hrn.below hb25 (by omega)
        replace hon := hon.below hb25 (by omega)
        replace hrd := hrd.below hb25 (by omega)
        replace hod := hod.below hb25 (by omega)
        replace hrd1 := hrd1.below hb25 (by omega)
        replace hod1 := hod1.below hb25 (by omega)
        replace hrd2 := hrd2.below hb25 (by omega)
        replace hod2 := hod2.below hb25 (by omega)
        replace hrh := hrh.below hb25 (by omega)
        replace hoh := hoh.below hb25 (by omega)
        go_wp2_with fail
        refine (heldInt64SS_any Ag _ cg w7.heap.size w8.heap.size _ 1 (by omega) HLT.out HLN.out HLL.out HLK.out _ hrn).mono ?_
        rintro e w' ⟨rfl, rfl⟩
        go_wp2_with fail
        go_ret
        exact ⟨rfl, (((((((((((((((((((((((((Below.refl _ _).trans (hb1.mono (by omega))).trans (hb2.mono (by omega))).trans (hb3.mono (by omega))).trans (hb4.mono (by omega))).trans (hb5.mono (by omega))).trans (hb6.mono (by omega))).trans (hb7.mono (by omega))).trans (hb8.mono (by omega))).trans (hb9.mono (by omega))).trans (hb10.mono (by omega))).trans (hb11.mono (by omega))).trans (hb12.mono (by omega))).trans (hb13.mono (by omega))).trans (hb14.mono (by omega))).trans (hb15.mono (by omega))).trans ((ht16.below (by omega)).mono (by omega))).trans ((ht17.below (by omega)).mono (by omega))).trans ((ht18.below (by omega)).mono (by omega))).trans (hb19.mono (by omega))).trans ((ht20.below (by omega)).mono (by omega))).trans (hb21.mono (by omega))).trans (hb22.mono (by omega))).trans (hb23.mono (by omega))).trans (hb24.mono (by omega))).trans (hb25.mono (by omega))⟩
      · clear hw0 hr1 hl1 hw1 hr2 hl2 hw2
        go_enter Try.func12, Try.ntmps12
        go_wp2_with fail
        refine (szBoolSS_big A0 n0 c0 0 w.heap.size l0 _ (by omega) (by omega) (by omega) hm0 _ hr0).mono ?_
        rintro e w' ⟨rfl, rfl⟩
        go_wp2_with fail
        go_ret
        exact ⟨rfl, Below.refl _ _⟩
    · clear hr0 hw0 hr1 hl1 hw1 hr2 hl2 hw2
      unfold maxLen at *
      go_enter Try.func12, Try.ntmps12
      go_wp2_with fail
      go_ret
      exact ⟨rfl, Below.refl _ _⟩
  · clear hr0 hw0 hr1 hl1 hw1 hr2 hl2 hw2
    unfold maxLen at *
    go_enter Try.func12, Try.ntmps12
    go_wp2_with fail
    go_ret
    exact ⟨rfl, Below.refl _ _⟩

set_option maxRecDepth 100000 in
theorem lifted (os : Os) (started : os.Started) (H : Type) (enc : TypeId × Value → H) :
    ReturnsInHanded {} Try.checked os 12 .any (Rows.fnExactFindRouteSpec.pre6 enc Try.prog Try.f12 Rows.fnExactFindRouteRow.domain false) (Rows.fnExactFindRouteSpec.post enc Try.prog Try.f12 false true false false) := by
  refine returnsInHanded_of_change (C := Try.checked) own started (by kernel_rfl) Try.func12
    (ChangeSpec.witness6 (enc := enc) (C := Try.checked) false ⟨#[], #[.slice none 0 0, .slice none 0 0, .slice none 0 0], []⟩ 8 (by kernel_rfl) (by kernel_rfl) (by kernel_rfl) (by kernel_rfl)) ?_
  intro W base args ds gs before hval0 hW hcnd _
  have hval : ∀ (j : Nat) t v, Try.f12.params[j]? = some t → args[j]? = some v → Value.okWide Try.prog W .any base t v := hval0
  have hW' := hW
  obtain ⟨p, q, hA0, hV, rfl, hfz, hnd⟩ := hW
  have hA : DataW.TrodAll enc Try.prog W 0 (fun _ => true) true Try.f12.params.toList args.toList ds p := hA0
  rw [Try.params12] at hA hval
  obtain ⟨v0, vs0, d0, ds0, p0, q0, hargs, rfl, rfl, h0, r0⟩ := trodAll_cons hA
  obtain ⟨v1, vs1, d1, ds1, p1, q1, rfl, rfl, rfl, h1, r1⟩ := trodAll_cons r0
  obtain ⟨v2, vs2, d2, ds2, p2, q2, rfl, rfl, rfl, h2, r2⟩ := trodAll_cons r1
  obtain ⟨rfl, rfl, rfl⟩ := trodAll_nil r2
  obtain rfl : args = #[v0, v1, v2] := by cases args; simp_all
  obtain ⟨rfl, rfl⟩ := trodVars_none hV
  obtain ⟨A0, n0, c0, l0, rfl, hnc0, hcm0, hr0, hw0⟩ := open_BoolSS (hval 0 22 v0 rfl rfl) h0
  obtain ⟨A1, n1, c1, l1, rfl, hnc1, hcm1, hl1, hr1, hw1⟩ := open_Int64S (hval 1 23 v1 rfl rfl) h1
  obtain ⟨A2, n2, c2, l2, rfl, hnc2, hcm2, hl2, hr2, hw2⟩ := open_Int64S (hval 2 23 v2 rfl rfl) h2
  clear hA0 hval0
  refine (walk W A0 n0 c0 l0 (Nat.le_trans hnc0 hcm0) hr0 hw0 A1 n1 c1 l1 hl1 (Nat.le_trans hnc1 hcm1) hr1 hw1 A2 n2 c2 l2 hl2 (Nat.le_trans hnc2 hcm2) hr2 hw2).mono fun e W' ⟨he, hB⟩ => ?_
  subst he
  exact ⟨_, rfl, law_post laidOut Try.underlying4 rfl (by kernel_rfl) (by kernel_rfl) hW' rfl rfl rfl hB⟩

theorem proved : Rows.FnExactFindRouteSaid :=
  OpenClaim.holds_of_wide 12 Try.f12 rfl rfl rfl rfl rfl rfl rfl ⟨rfl, rfl, rfl, rfl, rfl⟩ rfl rfl rfl rfl rfl (by kernel_rfl) Try.func12 (joined rfl rfl rfl (by kernel_rfl))
    (of_decide_eq_true (by kernel_rfl)) (by unfold Func.isWrapper; first | (rw [if_pos (by decide +kernel)]; kernel_rfl) | (rw [if_neg (by decide +kernel)]; exact ⟨rfl, rfl⟩))
    (fun os started H enc _ => lifted os started H enc)
#print axioms proved
end fnExactFindRoute
end Go.Proofs.Ythpoapkdlcoikaa
