/-
  A ROUTE as the reference draws it for motions. What is drawn is left open. No condition but those that each theorem names.
-/
import Derived.Test.YtoklcjpokffocaaTri
namespace Go.Proofs.Ytoklcjpokffocaa
open Go.RowKit
set_option linter.unusedVariables false
set_option linter.unusedSimpArgs false

/-- A list of rows of numbers; two of them may be one row. -/
def RtA (w : World) (lo : Nat) (v : Value) (n : Nat) (R : List (List Int)) : Prop :=
  ∃ us, w.ownsRow lo 25 1 v n us ∧ us.length = R.length ∧ ∀ (i : Nat) (u : Value) (r : List Int), us[i]? = some u → R[i]? = some r → w.ownsRow lo 2 1 u r.length (rInt64 r)
section
variable {w w' : World} {lo n : Nat} {v : Value} {R : List (List Int)}
theorem RtA.keep (h : RtA w lo v n R) (hk : ∀ g, lo ≤ g → g < w.heap.size → w'.heap[g]? = w.heap[g]?) : RtA w' lo v n R := by
  obtain ⟨us, h1, h2, h3⟩ := h
  exact ⟨us, owns_of_block h1 (fun g hg => hk g (h1.lt g hg).1 (h1.lt g hg).2), h2, fun i u r e1 e2 => owns_of_block (h3 i u r e1 e2) (fun g hg => hk g ((h3 i u r e1 e2).lt g hg).1 ((h3 i u r e1 e2).lt g hg).2)⟩
theorem RtA.tch {l r : Nat} (h : RtA w lo v n R) (t : Tch l r w w') (_ : lo ≤ w.heap.size) (h2 : r ≤ lo) : RtA w' lo v n R := h.keep fun g h1 h3 => t.block g h3 (.inr (by omega))
theorem RtA.alloc (h : RtA w lo v n R) (_ : lo ≤ w.heap.size) (o : Obj) : RtA (w.alloc o) lo v n R := h.keep fun g _ h2 => Below.heap_alloc _ _ _ h2
theorem RtA.drew (h : RtA w lo v n R) : RtA w.drew lo v n R := h.keep fun _ _ _ => rfl
theorem RtA.length (h : RtA w lo v n R) : R.length = n := by
  obtain ⟨us, h1, h2, _⟩ := h
  rw [← h2]; simpa using h1.1
theorem rta_nil (w : World) {X : World} (hX : w.alloc (.cells #[] 25) = X) : RtA X w.heap.size (.slice (some ⟨w.heap.size, 0, none⟩) 0 0) 0 [] := by
  subst hX
  exact ⟨[], ⟨rfl, .inr ⟨w.heap.size, 0, #[], rfl, Nat.le_refl _, heap_alloc_new _ _, Nat.le_refl _, by decide, rfl, rfl⟩⟩, rfl, fun i u r h => by simp at h⟩
theorem rta_snoc {us : List Value} {u v' : Value} {r : List Int} (ho : w.ownsRow lo 25 1 v n us) (hl : us.length = R.length) (hr : ∀ (i : Nat) (u : Value) (r : List Int), us[i]? = some u → R[i]? = some r → w.ownsRow lo 2 1 u r.length (rInt64 r)) (hu : w.ownsRow lo 2 1 u r.length (rInt64 r)) (hg : w.grownBy w' v.ownBlock) (ho' : w'.ownsRow lo 25 1 v' (n + 1) (us ++ [u])) : RtA w' lo v' (n + 1) (R ++ [r]) := by
  have keep : ∀ (x : Value) (s : List Int), w.ownsRow lo 2 1 x s.length (rInt64 s) → w'.ownsRow lo 2 1 x s.length (rInt64 s) := fun x s hx => owns_of_block hx fun g hg' => hg.block g (hx.lt g hg').2 fun e => own_ne hx ho (by decide) g hg' e.symm
  refine ⟨us ++ [u], ho', by simp [hl], fun i x s e1 e2 => ?_⟩
  rcases Nat.lt_or_ge i us.length with hi | hi
  · rw [List.getElem?_append_left hi] at e1
    rw [List.getElem?_append_left (by omega)] at e2
    exact keep x s (hr i x s e1 e2)
  · have hi0 : i = us.length := by
      have := (List.getElem?_eq_some_iff.1 e1).1
      simp at this; omega
    subst hi0
    rw [List.getElem?_append_right (Nat.le_refl _), Nat.sub_self] at e1
    rw [hl, List.getElem?_append_right (Nat.le_refl _), Nat.sub_self] at e2
    simp at e1 e2
    subst e1; subst e2
    exact keep u r hu
theorem rta_reads {us : List Value} {A : Option Addr} {hi : Nat} (h1 : Rd w lo hi 1 A n us) (hl : us.length = R.length) (hr : ∀ (i : Nat) (u : Value) (r : List Int), us[i]? = some u → R[i]? = some r → w.ownsRow lo 2 1 u r.length (rInt64 r)) (hh : w.heap.size ≤ hi) : RdSS w lo hi A n (rrInt64 R) := by
  have hn : us.length = n := h1.length1
  refine ⟨us, h1, by rw [rrInt64_len]; omega, fun i hi' => ?_⟩
  have hiR : i < R.length := by rw [rrInt64_len] at hi'; exact hi'
  have hiu : i < us.length := by omega
  obtain ⟨Ai, ci, e, k1, k2, k3⟩ := (Own.of_owns (hr i us[i] R[i] (List.getElem?_eq_getElem hiu) (List.getElem?_eq_getElem hiR))).rd
  refine ⟨Ai, _, ci, by rw [List.getElem?_eq_getElem hiu, e], Nat.le_trans k1 k2, ?_⟩
  have er : (rrInt64 R)[i] = rInt64 R[i] := by simp [rrInt64]
  rw [er]
  exact k3.mono (Nat.le_refl _) hh
theorem RtA.rd (h : RtA w lo v n R) : ∃ A c, v = .slice A n c ∧ n ≤ c ∧ c ≤ maxLen ∧ RdSS w lo w.heap.size A n (rrInt64 R) := by
  obtain ⟨us, h1, h2, h3⟩ := h
  obtain ⟨A, c, rfl, k1, k2, k3⟩ := (Own.of_owns h1).rd
  exact ⟨A, c, rfl, k1, k2, rta_reads k3 h2 h3 (Nat.le_refl _)⟩
/-- Another row in the place of the i-th. -/
theorem RtA.put (h : RtA w lo v n R) {i : Nat} (hi : i < n) {u : Value} {r : List Int} (hu : w.ownsRow lo 2 1 u r.length (rInt64 r)) :
    ∃ gv cv x, v = .slice (some ⟨gv, 0, none⟩) n cv ∧ lo ≤ gv ∧ w.cell? ⟨gv, i, none⟩ = some x ∧ w.frozen? ⟨gv, i, none⟩ = false ∧ RdSS (w.setCell ⟨gv, i, none⟩ u) lo w.heap.size (some ⟨gv, 0, none⟩) n (rrInt64 (R.set i r)) := by
  obtain ⟨us, h1, h2, h3⟩ := h
  have hn : us.length = n := by simpa using h1.1
  obtain ⟨gv, cv, rfl⟩ := Joins.ownsRow_form h1 (by omega)
  have hlt := h1.lt gv rfl
  have hne : ∀ (x : Value) (s : List Int), w.ownsRow lo 2 1 x s.length (rInt64 s) → (w.setCell ⟨gv, i, none⟩ u).ownsRow lo 2 1 x s.length (rInt64 s) := fun x s hx => owns_set hx (fun g hg' e => own_ne hx h1 (by decide) g hg' (by rw [e]; rfl)) _ _
  have hs : (w.setCell ⟨gv, i, none⟩ u).heap.size = w.heap.size := by simp [World.setCell]
  have hc := h1.cellAt i (by omega)
  rw [List.getElem?_eq_getElem (by omega)] at hc
  refine ⟨gv, cv, us[i], rfl, hlt.1, hc, h1.frozenAt i, ?_⟩
  refine rta_reads (us := us.set i u) ?_ (by simp [h2]) ?_ (by rw [hs]; exact Nat.le_refl _)
  · refine ⟨by simp [hn], fun _ => ⟨gv, 0, rfl, hlt.1, hlt.2, fun j x hj => ?_⟩⟩
    by_cases e : i = j
    · subst e
      rw [List.getElem?_set_self (by omega)] at hj
      rw [← hj, Nat.zero_add]
      exact World.cell?_setCell_same w _ _ hc
    · rw [List.getElem?_set_ne e] at hj
      rw [Nat.zero_add]
      have hj' : j < us.length := (List.getElem?_eq_some_iff.1 hj).1
      have := h1.cellAt j (by omega)
      exact (World.cell?_setCell_other w _ _ _ (by intro q; injection q with _ q; exact e q)).trans (this.trans hj)
  · intro j x s e1 e2
    by_cases e : i = j
    · subst e
      rw [List.getElem?_set_self (by omega)] at e1
      rw [List.getElem?_set_self (by omega)] at e2
      simp at e1 e2
      subst e1; subst e2
      exact hne u r hu
    · rw [List.getElem?_set_ne e] at e1
      rw [List.getElem?_set_ne e] at e2
      exact hne x s (h3 j x s e1 e2)
theorem Fz.alloc_at {g : Nat} (hg : g < w.heap.size) (j : Nat) (o : Obj) : (w.alloc o).frozen? ⟨g, j, none⟩ = w.frozen? ⟨g, j, none⟩ := World.frozen?_of_block (a := ⟨g, j, none⟩) (Below.heap_alloc _ _ _ hg)
theorem RtA.blk {g c : Nat} (h : RtA w lo (.slice (some ⟨g, 0, none⟩) n c) n R) : g < w.heap.size := by
  obtain ⟨us, h1, _⟩ := h
  exact (h1.lt g rfl).2
/-- A row that has just been laid. -/
theorem row_new (w : World) (cs : List Int) (n : Nat) (hn : cs.length = n) (hm : n ≤ maxLen) {lo : Nat} (hlo : lo ≤ w.heap.size) {X : World} (hX : w.alloc (.cells (cs.map (Value.int .i64)).toArray 2) = X) : X.ownsRow lo 2 1 (.slice (some ⟨w.heap.size, 0, none⟩) n n) cs.length (rInt64 cs) := by
  subst hX; subst hn
  refine ⟨by rw [rInt64_len1]; omega, .inr ⟨w.heap.size, cs.length, _, rfl, hlo, heap_alloc_new _ _, Nat.le_refl _, hm, by simp, ?_⟩⟩
  rw [rInt64_map]
  simp only [Nat.mul_one]
  exact List.take_of_length_le (by simp)
end

set_option maxRecDepth 100000 in
set_option maxHeartbeats 2000000 in
theorem DrawRouteMotions_g (A : Option Addr) (n c hi : Nat) (bs : List Value) (hn : n ≤ maxLen) (w : World) (h : Rd w 0 hi 1 A n bs) (hhi : hi ≤ w.heap.size) (hv : ∀ v ∈ bs, ∃ x : Int, v = .int .u8 x ∧ 0 ≤ x ∧ x ≤ 255) :
    Calls Try.prog 11 #[.slice A n c] w fun e w' => ∃ (A' : Option Addr) (n' c' : Nat) (R : List (List Int)), e = .returned (.slice A' n' c') ∧ n' ≤ 300 ∧ RdSS w' w.heap.size w'.heap.size A' n' (rrInt64 R) ∧ Below w.heap.size w w' := by
  obtain ⟨i0, hi0, hz0, hz1, hz2⟩ := info_parts infoSInt64
  have I := hide (And.intro hi0 (And.intro hz0 (And.intro hz1 hz2)))
  clear hi0 hz0 hz1 hz2
  have HR := hide h
  have HV := hide hv
  have HT := hide (show Blw w w from Below.refl _ _)
  clear h hv
  go_enter Try.func11, Try.ntmps11
  go_wp2_with fail
  refine (l00From_any A n c hi bs hn _ HR.out hhi HV.out).mono ?_
  rintro e w_1 ⟨rfl, S1, hq1⟩
  have t1 : Tch w.heap.size (w.heap.size + 1) w w_1 := Tch.of_below hq1 _ _
  clear hq1
  have hs_w_1 : w.heap.size ≤ w_1.heap.size := t1.size
  replace HT := hide (HT.out.thenT t1 (by omega))
  clear t1
  have HS := hide (show Src w_1 w.heap.size 0 from S1)
  have hlt := HS.out.lt
  clear S1 HV HR
  go_wp2_with fail
  refine (l16Draw_g w.heap.size 0 (by omega) _ HS.out).mono ?_
  rintro e w_2 ⟨sa, la, na, va, rfl, hsa0, hsa1, hva, hla, hna, ho, S1, t1⟩
  replace HS := hide S1
  clear S1
  have hs_w_2 : w_1.heap.size ≤ w_2.heap.size := t1.size
  replace HT := hide (HT.out.thenT t1 (by omega))
  clear t1
  obtain ⟨Aa, ca, rfl, _, _, hr⟩ := ho.rd
  have Ma := hide hr
  have HLa := hide hla
  have HVa := hide hva
  clear ho hr hla hva
  go_wp2_with fail
  obtain ⟨w_3, hW⟩ : ∃ W : World, W = (w_2.alloc (.cells #[.int .i64 sa, .slice Aa na ca] 27)) := ⟨_, rfl⟩
  rw [← hW]
  have hs_w_3 : w_3.heap.size = w_2.heap.size + 1 := by rw [hW]; simp
  replace Ma := hide (show Rd w_3 w_1.heap.size w_2.heap.size 1 Aa na (rInt64 la) by rw [hW]; exact (Ma.out.alloc (by first | omega | (simp <;> omega) | simp) _))
  have bC : Box w_3 w_2.heap.size [.int .i64 sa, .slice Aa na ca] := by rw [hW]; exact (box_at _ _ _ _ (by simp))
  have fC : Fz w_3 w_2.heap.size := by rw [hW]; exact (fz_at _ _ _ _ (by simp))
  replace HS := hide (show Src w_3 w.heap.size (0 + 60) by rw [hW]; exact (HS.out.alloc _))
  replace HT := hide (show Blw w w_3 by rw [hW]; exact (HT.out.alloc_ _))
  clear hW
  refine (l16Draw_g w.heap.size (0 + 60) (by omega) _ HS.out).mono ?_
  rintro e w_4 ⟨sb, lb, nb, vb, rfl, hsb0, hsb1, hvb, hlb, hnb, ho, S1, t1⟩
  replace HS := hide S1
  clear S1
  have hs_w_4 : w_3.heap.size ≤ w_4.heap.size := t1.size
  replace bC := bC.tch t1 (by omega) (by omega)
  replace fC := fC.tch t1 (by omega) (by omega)
  replace Ma := hide (Ma.out.tch t1 (by omega) (by omega))
  replace HT := hide (HT.out.thenT t1 (by omega))
  clear t1
  obtain ⟨Ab, cb, rfl, _, _, hr⟩ := ho.rd
  have Mb := hide hr
  have HLb := hide hlb
  have HVb := hide hvb
  clear ho hr hlb hvb
  go_wp2_with fail
  obtain ⟨w_5, hW⟩ : ∃ W : World, W = (w_4.alloc (.cells #[.int .i64 sb, .slice Ab nb cb] 27)) := ⟨_, rfl⟩
  rw [← hW]
  have hs_w_5 : w_5.heap.size = w_4.heap.size + 1 := by rw [hW]; simp
  replace bC : Box w_5 w_2.heap.size [.int .i64 sa, .slice Aa na ca] := by rw [hW]; exact (bC.alloc (by first | omega | (simp <;> omega) | simp) _)
  replace fC : Fz w_5 w_2.heap.size := by rw [hW]; exact (fC.alloc (by first | omega | (simp <;> omega) | simp) _)
  replace Ma := hide (show Rd w_5 w_1.heap.size w_2.heap.size 1 Aa na (rInt64 la) by rw [hW]; exact (Ma.out.alloc (by first | omega | (simp <;> omega) | simp) _))
  replace Mb := hide (show Rd w_5 w_3.heap.size w_4.heap.size 1 Ab nb (rInt64 lb) by rw [hW]; exact (Mb.out.alloc (by first | omega | (simp <;> omega) | simp) _))
  have bD : Box w_5 w_4.heap.size [.int .i64 sb, .slice Ab nb cb] := by rw [hW]; exact (box_at _ _ _ _ (by simp))
  have fD : Fz w_5 w_4.heap.size := by rw [hW]; exact (fz_at _ _ _ _ (by simp))
  replace HS := hide (show Src w_5 w.heap.size (0 + 120) by rw [hW]; exact (HS.out.alloc _))
  replace HT := hide (show Blw w w_5 by rw [hW]; exact (HT.out.alloc_ _))
  clear hW
  have hs5e : w_5.heap.size = w_4.heap.size + 1 := hs_w_5
  replace hs_w_5 := Nat.le_of_eq hs_w_5.symm
  try go_wp2_with fail
  obtain ⟨X, hX⟩ : ∃ X, w_5.alloc (.cells #[] 25) = X := ⟨_, rfl⟩
  rw [hX]
  have hsX : X.heap.size = w_5.heap.size + 1 := by rw [← hX]; simp
  have HRT := hide (show RtA X w_5.heap.size (.slice (some ⟨w_4.heap.size + 1, 0, none⟩) 0 0) 0 [] by rw [← hs5e]; exact rta_nil w_5 hX)
  clear hs5e
  have HBX := hide (show Below w_5.heap.size w_5 X by rw [← hX]; exact below_al _ _)
  clear hX
  go_loopw [6, 7] (fun v i wr => ∃ (k : Nat) (R : List (List Int)), k ≤ na + 1 ∧ i = .int .i64 (k : Int) ∧ Hid (Below w_5.heap.size w_5 wr) ∧ Hid (RtA wr w_5.heap.size v k R)) (fun _ i _ => na + 1 - (intOf i).toNat)
  case atStart => exact ⟨0, [], by omega, rfl, HBX, HRT⟩
  case round =>
    clear HBX HRT
    obtain ⟨k, R, hk, rfl, HBR, HRT⟩ := hrel
    have hsz := HBR.out.size
    by_cases hkn : k ≤ na
    · have z1 : (k : Int) ≤ (na : Int) := by omega
      have lC1 := (bC.below HBR.out (by omega)) 1 _ rfl
      have HAa := hide (l16At_m w_2.heap.size Aa na ca _ _ sa la HLa.out (by omega) HVa.out hsa0 hsa1 k (by omega) _ rfl wr (bC.below HBR.out (by omega)) (Ma.out.below HBR.out (by omega)))
      have HAb := hide (l16At_m w_4.heap.size Ab nb cb _ _ sb lb HLb.out (by omega) HVb.out hsb0 hsb1 k (by omega) _ rfl wr (bD.below HBR.out (by omega)) (Mb.out.below HBR.out (by omega)))
      obtain ⟨us, ho, hl, hr⟩ := HRT.out
      have HUL := hide hl
      obtain ⟨x, hx⟩ : ∃ x, moAt sa la k = x := ⟨_, rfl⟩
      obtain ⟨y, hy⟩ : ∃ y, moAt sb lb k = y := ⟨_, rfl⟩
      rw [hx] at HAa
      rw [hy] at HAb
      clear hx hy
      obtain ⟨Y1, hY1⟩ : ∃ Y, wr.alloc (.cells #[.int .i64 x, .int .i64 y] 2) = Y := ⟨_, rfl⟩
      obtain ⟨Y2, hY2⟩ : ∃ Y, Y1.alloc (.cells #[.slice (some ⟨wr.heap.size, 0, none⟩) 2 2] 25) = Y := ⟨_, rfl⟩
      have sY1 : Y1.heap.size = wr.heap.size + 1 := by rw [← hY1]; simp
      have sY2 : Y2.heap.size = wr.heap.size + 2 := by rw [← hY2]; simp; omega
      have HO2 := hide (show Y2.ownsRow w_5.heap.size 25 1 u6 k us by rw [← hY2]; exact World.ownsRow.alloc (by rw [← hY1]; exact ho.alloc _) _)
      have HR2 := hide (show ∀ (i : Nat) (u : Value) (r : List Int), us[i]? = some u → R[i]? = some r → Y2.ownsRow w_5.heap.size 2 1 u r.length (rInt64 r) from fun i u r e1 e2 => by rw [← hY2, ← hY1]; exact ((hr i u r e1 e2).alloc _).alloc _)
      have HU2 := hide (show Y2.ownsRow w_5.heap.size 2 1 (.slice (some ⟨wr.heap.size, 0, none⟩) 2 2) [x, y].length (rInt64 [x, y]) by rw [← hY2]; exact (row_new wr [x, y] 2 rfl (by decide) hsz hY1).alloc _)
      have HN2 := hide (show ∀ (j : Nat) (u : Value), [Value.slice (some ⟨wr.heap.size, 0, none⟩) 2 2][j]? = some u → Y2.cell? ((⟨wr.heap.size + 1, 0, none⟩ : Addr).add j) = some u by rw [← hY2]; exact cell_one_t Y1 _ _ _ sY1.symm)
      have HB2 := hide (show Below w_5.heap.size w_5 Y2 by rw [← hY2, ← hY1]; exact (HBR.out.alloc hsz _).alloc (by simp; omega) _)
      have HY1 := hide hY1
      have HY2 := hide hY2
      clear ho hl hr hY1 hY2 sY1
      go_upto_region 7 with (first | (go_at_call 27; with_reducible refine HAa.out.mono ?_; rintro e w' ⟨rfl, hw'⟩; obtain rfl := hw'.symm) | (go_at_call 27; with_reducible refine HAb.out.mono ?_; rintro e w' ⟨rfl, hw'⟩; obtain rfl := hw'.symm) | (at_builtin; (try rw [HY1.out]); (try rw [HY2.out]); refine wpList_append_own _ rfl (.tmp 24) (.tmp 30) 32 rfl w_5.heap.size 25 i0 (.slice none 0 0) 1 24 Try.underlying32 I.out.1 I.out.2.1 I.out.2.2.1 I.out.2.2.2 rfl (by decide) u6 k us rfl HO2.out ⟨wr.heap.size + 1, 0, none⟩ 1 1 [.slice (some ⟨wr.heap.size, 0, none⟩) 2 2] rfl rfl HN2.out (by simp [Value.oneCell']) (by unfold maxLen; omega) (by omega) (by omega) ?_; intro v' wn hown' hgrow _; have HG := hide hgrow; have HON := hide hown'; clear hown' hgrow))
      have HRN := hide (rta_snoc HO2.out HUL.out HR2.out HU2.out HG.out HON.out)
      have HBN := hide (HB2.out.grown HG.out (by omega) (fun g hg => (HO2.out.lt g hg).1))
      clear HG HON HO2 HR2 HU2 HN2 HB2 HAa HAb lC1
      go_wp2_with fail
      go_roundw
      case rel => exact ⟨k + 1, R ++ [[x, y]], by omega, by go_num, HBN, HRN⟩
      case measure => first | (simp [intOf]; done) | (simp [intOf]; omega)
    · obtain ⟨A6, c6, rfl, hc61, hc62, _⟩ := HRT.out.rd
      have hk1 : na + 1 ≤ k := by omega
      have z1 : ¬ (k : Int) ≤ (na : Int) := by omega
      have lC1 := (bC.below HBR.out (by omega)) 1 _ rfl
      generalize wr = w6 at *
      go_upto_region 9 with fail
      clear lC1
      have hq1 := HBR.out
      have t1 : Tch w.heap.size (w.heap.size + 1) w_5 w6 := Tch.of_below hq1 _ _
      replace HS := hide (HS.out.bel hq1)
      clear hq1
      have hs_w6 : w_5.heap.size ≤ w6.heap.size := t1.size
      replace bC := bC.tch t1 (by omega) (by omega)
      replace fC := fC.tch t1 (by omega) (by omega)
      replace bD := bD.tch t1 (by omega) (by omega)
      replace fD := fD.tch t1 (by omega) (by omega)
      replace Ma := hide (Ma.out.tch t1 (by omega) (by omega))
      replace Mb := hide (Mb.out.tch t1 (by omega) (by omega))
      replace HT := hide (HT.out.thenT t1 (by omega))
      clear t1
      clear HBR
      go_wp2_with fail
      refine (pick_any w.heap.size (0 + 120) (k : Int) (by omega) (by omega) (by omega) _ HS.out).mono ?_
      rintro e w_6 ⟨p6, rfl, p6a, p6b, S1, t1⟩
      replace HS := hide S1
      clear S1
      have hs_w_6 : w6.heap.size ≤ w_6.heap.size := t1.size
      replace bC := bC.tch t1 (by omega) (by omega)
      replace fC := fC.tch t1 (by omega) (by omega)
      replace bD := bD.tch t1 (by omega) (by omega)
      replace fD := fD.tch t1 (by omega) (by omega)
      replace Ma := hide (Ma.out.tch t1 (by omega) (by omega))
      replace Mb := hide (Mb.out.tch t1 (by omega) (by omega))
      replace HRT := hide (HRT.out.tch t1 (by omega) (by omega))
      replace HT := hide (HT.out.thenT t1 (by omega))
      clear t1
      obtain ⟨ja, hja⟩ : ∃ j : Nat, p6 = j := ⟨p6.toNat, by omega⟩
      subst hja
      have hjk : ja < k := by omega
      go_wp2_with fail
      refine (pick_any w.heap.size (0 + 122) 12 (by omega) (by omega) (by omega) _ HS.out).mono ?_
      rintro e w_7 ⟨p7, rfl, p7a, p7b, S1, t1⟩
      replace HS := hide S1
      clear S1
      have hs_w_7 : w_6.heap.size ≤ w_7.heap.size := t1.size
      replace bC := bC.tch t1 (by omega) (by omega)
      replace fC := fC.tch t1 (by omega) (by omega)
      replace bD := bD.tch t1 (by omega) (by omega)
      replace fD := fD.tch t1 (by omega) (by omega)
      replace Ma := hide (Ma.out.tch t1 (by omega) (by omega))
      replace Mb := hide (Mb.out.tch t1 (by omega) (by omega))
      replace HRT := hide (HRT.out.tch t1 (by omega) (by omega))
      replace HT := hide (HT.out.thenT t1 (by omega))
      clear t1
      by_cases h0 : p7 = 0
      · subst h0
        go_wp2_with fail
        refine (pick_any w.heap.size (0 + 124) 24 (by omega) (by omega) (by omega) _ HS.out).mono ?_
        rintro e w_8 ⟨p8, rfl, p8a, p8b, S1, t1⟩
        replace HS := hide S1
        clear S1
        have hs_w_8 : w_7.heap.size ≤ w_8.heap.size := t1.size
        replace bC := bC.tch t1 (by omega) (by omega)
        replace fC := fC.tch t1 (by omega) (by omega)
        replace bD := bD.tch t1 (by omega) (by omega)
        replace fD := fD.tch t1 (by omega) (by omega)
        replace Ma := hide (Ma.out.tch t1 (by omega) (by omega))
        replace Mb := hide (Mb.out.tch t1 (by omega) (by omega))
        replace HRT := hide (HRT.out.tch t1 (by omega) (by omega))
        replace HT := hide (HT.out.thenT t1 (by omega))
        clear t1
        go_wp2_with fail
        refine (pick_any w.heap.size (0 + 126) 24 (by omega) (by omega) (by omega) _ HS.out).mono ?_
        rintro e w_9 ⟨p9, rfl, p9a, p9b, S1, t1⟩
        replace HS := hide S1
        clear S1
        have hs_w_9 : w_8.heap.size ≤ w_9.heap.size := t1.size
        replace bC := bC.tch t1 (by omega) (by omega)
        replace fC := fC.tch t1 (by omega) (by omega)
        replace bD := bD.tch t1 (by omega) (by omega)
        replace fD := fD.tch t1 (by omega) (by omega)
        replace Ma := hide (Ma.out.tch t1 (by omega) (by omega))
        replace Mb := hide (Mb.out.tch t1 (by omega) (by omega))
        replace HRT := hide (HRT.out.tch t1 (by omega) (by omega))
        replace HT := hide (HT.out.thenT t1 (by omega))
        clear t1
        obtain ⟨Z1, hZ1⟩ : ∃ Z, w_9.alloc (.cells #[.int .i64 p8, .int .i64 p9] 2) = Z := ⟨_, rfl⟩
        have sZ1 : w_9.heap.size ≤ Z1.heap.size := by rw [← hZ1]; simp
        have hu := row_new w_9 [p8, p9] 2 rfl (by decide) (lo := w_5.heap.size) (by omega) hZ1
        have hz := (show RtA Z1 w_5.heap.size (.slice A6 k c6) k R by rw [← hZ1]; exact HRT.out.alloc (by omega) _)
        obtain ⟨gv, cv, xv, ev, hgv, hcv, hfv, hrd⟩ := hz.put hjk hu
        injection ev with ev1 _ ev2
        subst ev1
        have HZT := hide (show Blw w Z1 by rw [← hZ1]; exact HT.out.alloc_ _)
        have HRD := hide hrd
        have hgb := HRT.out.blk
        have hcw : w_9.cell? ⟨gv, ja, none⟩ = some xv := (World.cell?_alloc_lt w_9 _ _ hgb).symm.trans (by rw [hZ1]; exact hcv)
        have hfw : w_9.frozen? ⟨gv, ja, none⟩ = false := (Fz.alloc_at hgb ja _).symm.trans (by rw [hZ1]; exact hfv)
        have HZ1 := hide hZ1
        clear hz hu hrd hZ1 hcv hfv
        go_upto_region 22 with (fail)
        rw [← World.setCell_alloc_past _ _ _ _ hgb, HZ1.out]
        have HTE := hide (show Blw w (Z1.setCell ⟨gv, ja, none⟩ (.slice (some ⟨w_9.heap.size, 0, none⟩) 2 2)) from HZT.out.setNew (by omega) _ _)
        have hsE : (Z1.setCell ⟨gv, ja, none⟩ (.slice (some ⟨w_9.heap.size, 0, none⟩) 2 2)).heap.size = Z1.heap.size := by simp [World.setCell]
        have HRE := hide (HRD.out.mono (lo' := w.heap.size) (hi' := (Z1.setCell ⟨gv, ja, none⟩ (.slice (some ⟨w_9.heap.size, 0, none⟩) 2 2)).heap.size) (by omega) (by omega))
        clear hsE HRD HZT hcw hfw
        generalize (Z1.setCell ⟨gv, ja, none⟩ (.slice (some ⟨w_9.heap.size, 0, none⟩) 2 2)) = WE at *
        go_wp2_with fail
        go_ret
        exact ⟨_, k, _, _, rfl, by omega, HRE.out, HTE.out⟩
      by_cases h1 : p7 = 1
      · subst h1
        go_wp2_with fail
        refine (pick_any w.heap.size (0 + 124) 24 (by omega) (by omega) (by omega) _ HS.out).mono ?_
        rintro e w_8 ⟨p8, rfl, p8a, p8b, S1, t1⟩
        replace HS := hide S1
        clear S1
        have hs_w_8 : w_7.heap.size ≤ w_8.heap.size := t1.size
        replace bC := bC.tch t1 (by omega) (by omega)
        replace fC := fC.tch t1 (by omega) (by omega)
        replace bD := bD.tch t1 (by omega) (by omega)
        replace fD := fD.tch t1 (by omega) (by omega)
        replace Ma := hide (Ma.out.tch t1 (by omega) (by omega))
        replace Mb := hide (Mb.out.tch t1 (by omega) (by omega))
        replace HRT := hide (HRT.out.tch t1 (by omega) (by omega))
        replace HT := hide (HT.out.thenT t1 (by omega))
        clear t1
        obtain ⟨Z1, hZ1⟩ : ∃ Z, w_8.alloc (.cells #[.int .i64 p8] 2) = Z := ⟨_, rfl⟩
        have sZ1 : w_8.heap.size ≤ Z1.heap.size := by rw [← hZ1]; simp
        have hu := row_new w_8 [p8] 1 rfl (by decide) (lo := w_5.heap.size) (by omega) hZ1
        have hz := (show RtA Z1 w_5.heap.size (.slice A6 k c6) k R by rw [← hZ1]; exact HRT.out.alloc (by omega) _)
        obtain ⟨gv, cv, xv, ev, hgv, hcv, hfv, hrd⟩ := hz.put hjk hu
        injection ev with ev1 _ ev2
        subst ev1
        have HZT := hide (show Blw w Z1 by rw [← hZ1]; exact HT.out.alloc_ _)
        have HRD := hide hrd
        have hgb := HRT.out.blk
        have hcw : w_8.cell? ⟨gv, ja, none⟩ = some xv := (World.cell?_alloc_lt w_8 _ _ hgb).symm.trans (by rw [hZ1]; exact hcv)
        have hfw : w_8.frozen? ⟨gv, ja, none⟩ = false := (Fz.alloc_at hgb ja _).symm.trans (by rw [hZ1]; exact hfv)
        have HZ1 := hide hZ1
        clear hz hu hrd hZ1 hcv hfv
        go_upto_region 22 with (fail)
        rw [← World.setCell_alloc_past _ _ _ _ hgb, HZ1.out]
        have HTE := hide (show Blw w (Z1.setCell ⟨gv, ja, none⟩ (.slice (some ⟨w_8.heap.size, 0, none⟩) 1 1)) from HZT.out.setNew (by omega) _ _)
        have hsE : (Z1.setCell ⟨gv, ja, none⟩ (.slice (some ⟨w_8.heap.size, 0, none⟩) 1 1)).heap.size = Z1.heap.size := by simp [World.setCell]
        have HRE := hide (HRD.out.mono (lo' := w.heap.size) (hi' := (Z1.setCell ⟨gv, ja, none⟩ (.slice (some ⟨w_8.heap.size, 0, none⟩) 1 1)).heap.size) (by omega) (by omega))
        clear hsE HRD HZT hcw hfw
        generalize (Z1.setCell ⟨gv, ja, none⟩ (.slice (some ⟨w_8.heap.size, 0, none⟩) 1 1)) = WE at *
        go_wp2_with fail
        go_ret
        exact ⟨_, k, _, _, rfl, by omega, HRE.out, HTE.out⟩
      by_cases h2 : p7 = 2
      · subst h2
        go_wp2_with fail
        go_ret
        exact ⟨_, 0, _, [], rfl, by omega, ⟨[], Rd.nil _ _ _ _ _, rfl, fun i hi => by simp [rrInt64] at hi⟩, HT.out.alloc_ _⟩
      by_cases h3 : p7 = 3
      · subst h3
        go_upto_region 18 with fail
        have hdz7 : (World.drew w_7).heap.size = w_7.heap.size := rfl
        replace bC : Box (World.drew w_7) w_2.heap.size [.int .i64 sa, .slice Aa na ca] := bC
        replace fC : Fz (World.drew w_7) w_2.heap.size := fC
        replace bD : Box (World.drew w_7) w_4.heap.size [.int .i64 sb, .slice Ab nb cb] := bD
        replace fD : Fz (World.drew w_7) w_4.heap.size := fD
        replace Ma := hide (show Rd (World.drew w_7) w_1.heap.size w_2.heap.size 1 Aa na (rInt64 la) from Ma.out.drew)
        replace Mb := hide (show Rd (World.drew w_7) w_3.heap.size w_4.heap.size 1 Ab nb (rInt64 lb) from Mb.out.drew)
        replace HRT := hide (show RtA (World.drew w_7) w_5.heap.size (.slice A6 k c6) k R from HRT.out.drew)
        replace HS := hide (show Src (World.drew w_7) w.heap.size (0 + 124) from HS.out.drew)
        replace HT := hide (show Blw w (World.drew w_7) from HT.out.drew_)
        have HPK := hide (pick_any w.heap.size (0 + 124) 2 (by omega) (by omega) (by omega) (World.drew w_7) HS.out)
        have HC1 : Hid ((fun W => W.cell? ⟨w_2.heap.size, 0, none⟩ = some (.int .i64 sa) ∧ W.cell? ⟨w_2.heap.size, 1, none⟩ = some (.slice Aa na ca)) (World.drew w_7)) := hide ⟨bC 0 _ rfl, bC 1 _ rfl⟩
        go_region_held3 (fun W => W.cell? ⟨w_2.heap.size, 0, none⟩ = some (.int .i64 sa) ∧ W.cell? ⟨w_2.heap.size, 1, none⟩ = some (.slice Aa na ca)) (first | exact HC2.out | exact HC1.out) (first | (go_at_call 28; (with_reducible refine HPK.out.mono ?_); rintro e w_8 ⟨p8, rfl, p8a, p8b, S1, t1⟩; replace HS := hide S1; clear S1; have hs_w_8 : (World.drew w_7).heap.size ≤ w_8.heap.size := t1.size; replace bC := bC.tch t1 (by omega) (by omega); replace fC := fC.tch t1 (by omega) (by omega); replace bD := bD.tch t1 (by omega) (by omega); replace fD := fD.tch t1 (by omega) (by omega); replace Ma := hide (Ma.out.tch t1 (by omega) (by omega)); replace Mb := hide (Mb.out.tch t1 (by omega) (by omega)); replace HRT := hide (HRT.out.tch t1 (by omega) (by omega)); replace HT := hide (HT.out.thenT t1 (by omega)); clear t1; have HC2 : Hid ((fun W => W.cell? ⟨w_2.heap.size, 0, none⟩ = some (.int .i64 sa) ∧ W.cell? ⟨w_2.heap.size, 1, none⟩ = some (.slice Aa na ca)) w_8) := hide ⟨bC 0 _ rfl, bC 1 _ rfl⟩))
        clear HC1 HC2 HPK
        obtain ⟨k0, hk0⟩ : ∃ k0 : Int, 200 - (na : Int) + p8 = k0 := ⟨_, rfl⟩
        have hk00 : 0 ≤ k0 := by omega
        have hk01 : k0 ≤ 201 := by omega
        have hk02 : k0 + na ≤ 201 := by omega
        have hmw : IntKind.i64.wrap (IntKind.i64.wrap (200 - (na : Int)) + p8) = k0 := by rw [show IntKind.i64.wrap (200 - (na : Int)) = 200 - na from IntWalk.i64_in _ (by omega), hk0]; exact IntWalk.i64_in _ (by omega)
        rw [hmw]
        have hme : IntKind.i64.wrap (200 - (na : Int)) = 200 - na := IntWalk.i64_in _ (by omega)
        try rw [hme]
        clear hk0 hmw hme
        go_wp2_with fail
        go_loopw [6, 9] (fun v kk wr => ∃ (q : Nat) (k' : Int) (R : List (List Int)), q + k' ≤ 201 ∧ 0 ≤ k' ∧ kk = .int .i64 k' ∧ Hid (Blw w wr) ∧ Hid (RtA wr w_5.heap.size v (q + 1) R) ∧ w_5.heap.size ≤ wr.heap.size) (fun _ kk _ => (intOf kk).toNat)
        case atStart => exact ⟨k - 1, k0, R, by omega, by omega, rfl, HT, hide (by rw [Nat.sub_add_cancel (by omega)]; exact HRT.out), by omega⟩
        case round =>
          clear HT HRT
          obtain ⟨q, k', R', hqk, hk0', rfl, HT, HRT, hszr⟩ := hrel
          by_cases hkp : 0 < k'
          · have hkp' : decide (0 < k') = true := by simpa using hkp
            obtain ⟨us, ho, hl, hr⟩ := HRT.out
            obtain ⟨gv, cv, hv0⟩ := Joins.ownsRow_form ho (by omega)
            subst hv0
            have hn : us.length = q + 1 := by simpa using ho.1
            have hc := ho.cellAt q (by omega)
            rw [List.getElem?_eq_getElem (by omega)] at hc
            have hu := hr q us[q] (R'[q]'(by omega)) (List.getElem?_eq_getElem (by omega)) (List.getElem?_eq_getElem (by omega))
            obtain ⟨r, hr0⟩ : ∃ r, R'[q]'(by omega) = r := ⟨_, rfl⟩
            rw [hr0] at hu
            obtain ⟨u, hu0⟩ : ∃ u, us[q]'(by omega) = u := ⟨_, rfl⟩
            rw [hu0] at hu hc
            clear hr0 hu0
            obtain ⟨Au, cu, hue, _, _, _⟩ := (Own.of_owns hu).rd
            subst hue
            obtain ⟨nr, hnr⟩ : ∃ z, r.length = z := ⟨_, rfl⟩
            rw [hnr] at hu hc
            have HNR := hide hnr
            clear hnr
            obtain ⟨Y, hY⟩ : ∃ Y, wr.alloc (.cells #[.slice Au nr cu] 25) = Y := ⟨_, rfl⟩
            have sY : Y.heap.size = wr.heap.size + 1 := by rw [← hY]; simp
            have HUL := hide hl
            have HO2 := hide (show Y.ownsRow w_5.heap.size 25 1 (.slice (some ⟨gv, 0, none⟩) (q + 1) cv) (q + 1) us by rw [← hY]; exact ho.alloc _)
            have HR2 := hide (show ∀ (i : Nat) (u : Value) (r : List Int), us[i]? = some u → R'[i]? = some r → Y.ownsRow w_5.heap.size 2 1 u r.length (rInt64 r) from fun i u r e1 e2 => by rw [← hY]; exact (hr i u r e1 e2).alloc _)
            have HU2 := hide (show Y.ownsRow w_5.heap.size 2 1 (.slice Au nr cu) r.length (rInt64 r) by rw [HNR.out, ← hY]; exact hu.alloc _)
            have HN2 := hide (show ∀ (j : Nat) (x : Value), [Value.slice Au nr cu][j]? = some x → Y.cell? ((⟨wr.heap.size, 0, none⟩ : Addr).add j) = some x by rw [← hY]; exact cell_one_t wr _ _ _ rfl)
            have HONE := hide (show ∀ x ∈ [Value.slice Au nr cu], x.oneCell' = true by intro x hx; simp at hx; rw [hx]; rfl)
            have HT2 := hide (show Blw w Y by rw [← hY]; exact HT.out.alloc_ _)
            have HY := hide hY
            clear ho hl hr hu hY hn HRT
            go_upto_region 20 with (at_builtin; (try rw [HY.out]); refine wpList_append_own _ rfl (.tmp 72) (.tmp 79) 32 rfl w_5.heap.size 25 i0 (.slice none 0 0) 1 24 Try.underlying32 I.out.1 I.out.2.1 I.out.2.2.1 I.out.2.2.2 rfl (by decide) _ (q + 1) us rfl HO2.out ⟨wr.heap.size, 0, none⟩ 1 1 [.slice Au nr cu] rfl rfl HN2.out HONE.out (by unfold maxLen; omega) (by omega) (by omega) ?_; intro v' wn hown' hgrow _; have HG := hide hgrow; have HON := hide hown'; clear hown' hgrow)
            have HRN := hide (rta_snoc HO2.out HUL.out HR2.out HU2.out HG.out HON.out)
            have HTN := hide (show Blw w wn from Below.grown HT2.out HG.out (by omega) (fun g hg => by have := (HO2.out.lt g hg).1; omega))
            have hsn := HG.out.size
            clear HG HON HO2 HR2 HU2 HN2 HT2 hc HONE
            go_wp2_with fail
            go_roundw
            case rel =>
              exact ⟨q + 1, k' - 1, R' ++ [r], by omega, by omega, by go_num, HTN, HRN, by omega⟩
            case measure => first | (simp [intOf]; done) | (simp [intOf]; omega)
          · have hkp' : decide (0 < k') = false := by simpa using hkp
            obtain ⟨A9, c9, e9, _, _, hrd⟩ := HRT.out.rd
            subst e9
            have HRD9 := hide (hrd.mono (lo' := w.heap.size) (hi' := wr.heap.size) (by omega) (Nat.le_refl _))
            clear hrd
            go_wp2_with fail
            go_ret
            first | exact ⟨_, q + 1, _, _, rfl, by omega, HRD9.out, HT.out⟩ | exact ⟨_, q + 1, ⟨_, rfl⟩, by omega, ⟨_, HRD9.out⟩, HT.out⟩
      · have n0 : (p7 == 0) = false := by simpa using h0
        have n1 : (p7 == 1) = false := by simpa using h1
        have n2 : (p7 == 2) = false := by simpa using h2
        have n3 : (p7 == 3) = false := by simpa using h3
        go_wp2_with fail
        go_ret
        obtain ⟨A9, c9, e9, _, _, hrd⟩ := HRT.out.rd
        injection e9 with e91 _ e92
        subst e91
        exact ⟨_, k, _, _, rfl, by omega, hrd.mono (by omega) (Nat.le_refl _), HT.out⟩


end Go.Proofs.Ytoklcjpokffocaa
