/-
  RouteText: the reference's and the program's. No condition but those that each theorem names.
-/
import Derived.Test.YtnbahmjimnhfbaaDoorJn
import Derived.Test.YtnbahmjimnhfbaaDoorFamSInt64
namespace Go.Proofs.YtnbahmjimnhfbaaDoor
open Go.RowKit
set_option linter.unusedVariables false
set_option linter.unusedSimpArgs false

/-- Parts with a sign between them. -/
def jn (sep : UInt8) (g : Nat → List UInt8) : Nat → List UInt8
  | 0 => []
  | k + 1 => (if k = 0 then [] else jn sep g k ++ [sep]) ++ g k
theorem jn_join (sep : UInt8) {α : Type} (T : α → List UInt8) (d : α) (L : List α) : ∀ k, k ≤ L.length → jn sep (fun i => T (L.getD i d)) k = Lib.join ((L.take k).map T) [sep]
  | 0, _ => by simp [jn, Lib.join_nil]
  | k + 1, hk => by
    have ih := jn_join sep T d L k (by omega)
    have hkl : k < L.length := by omega
    rw [jn, show L.getD k d = L[k] by simp [List.getD, hkl], List.take_succ_eq_append_getElem hkl, List.map_append]
    cases k with
    | zero => simp [Lib.join_one]
    | succ k =>
      rw [if_neg (by omega), ih]
      match L, hkl with
      | x :: r, hkl =>
        simp only [List.take_succ_cons, List.map_cons, List.cons_append, List.getElem_cons_succ]
        rw [Lib.join_cons, Lib.join_cons]
        simp [Lib.joinTail, List.append_assoc]
def rowP (r : List Int) (j : Nat) : List UInt8 := jn 47 (fun i => Lib.itoa (r.getD i 0)) j
def rowT (r : List Int) : List UInt8 := Lib.join (r.map Lib.itoa) [47]
def rouP (l : List (List Int)) (k : Nat) : List UInt8 := jn 32 (fun i => rowT (l.getD i [])) k
def preP (l : List (List Int)) (k : Nat) : List UInt8 := if k = 0 then [] else rouP l k ++ [32]
theorem rowP_T (r : List Int) : rowP r r.length = rowT r := by unfold rowP rowT; rw [jn_join 47 Lib.itoa 0 r _ (Nat.le_refl _), List.take_length]
theorem rowP_sn {r : List Int} {j : Nat} (h : j < r.length) : rowP r (j + 1) = (if j = 0 then [] else rowP r j ++ [47]) ++ Lib.itoa r[j] := by
  show jn _ _ (j + 1) = _
  rw [jn, show r.getD j 0 = r[j] by simp [List.getD, h]]; rfl
theorem rouP_sn {l : List (List Int)} {k : Nat} (h : k < l.length) : rouP l (k + 1) = preP l k ++ rowT l[k] := by
  show jn _ _ (k + 1) = _
  rw [jn, show l.getD k [] = l[k] by simp [List.getD, h]]; rfl
theorem rouP_join (l : List (List Int)) : rouP l l.length = Lib.join (l.map rowT) [32] := by unfold rouP; rw [jn_join 32 rowT [] l _ (Nat.le_refl _), List.take_length]
def J64 (x : Int) : Prop := -9223372036854775808 ≤ x ∧ x ≤ 9223372036854775807
def allI (l : List (List Int)) : Prop := ∀ r ∈ l, ∀ p ∈ r, J64 p
theorem rowP_len {r : List Int} (h : ∀ p ∈ r, J64 p) : ∀ j, j ≤ r.length → (rowP r j).length ≤ 22 * j
  | 0, _ => by simp [rowP, jn]
  | j + 1, hj => by
    have ih := rowP_len h j (by omega)
    have hjl : j < r.length := by omega
    obtain ⟨a, b⟩ := h _ (List.getElem_mem hjl)
    have := itoa_le a b
    rw [rowP_sn hjl]
    split <;> simp <;> omega
theorem rouP_len {l : List (List Int)} (h : allI l) : ∀ k, k ≤ l.length → (rouP l k).length ≤ 22 * tot (rrInt64 l) k + k
  | 0, _ => by simp [rouP, jn]
  | k + 1, hk => by
    have ih := rouP_len h k (by omega)
    have hkl : k < l.length := by omega
    have h1 := rowP_len (h _ (List.getElem_mem hkl)) l[k].length (Nat.le_refl _)
    rw [rowP_T] at h1
    have h2 := tot_succ (rrInt64 l) k (by rw [rrInt64_len]; exact hkl)
    rw [rrInt64_at, rInt64_len1, show l.getD k [] = l[k] by simp [List.getD, hkl]] at h2
    rw [rouP_sn hkl]
    unfold preP
    split <;> simp <;> omega
theorem preP_len {l : List (List Int)} (h : allI l) {k : Nat} (hk : k ≤ l.length) : (preP l k).length ≤ 22 * tot (rrInt64 l) k + k + 1 := by
  have := rouP_len h k hk
  unfold preP
  split <;> simp <;> omega
def rouS (l : List (List Int)) : ByteArray := bstr (rouP l l.length)
theorem str_bstr' (n : Int) : str n = bstr (Lib.itoa n) := rfl
theorem one_at8' (w : World) (v : Value) (T : TypeId) : ∀ (j : Nat) (u : Value), [v][j]? = some u → (w.alloc (.cells #[v] T)).cell? ((⟨w.heap.size, 0, none⟩ : Addr).add j) = some u := by
  intro j u hu
  rw [Go.WideShapes.add_plain, Nat.zero_add, new_cell]
  simpa using hu
theorem rInt64_cell {r : List Int} {j : Nat} (h : j < r.length) : (rInt64 r)[j]? = some (.int .i64 r[j]) := by have := rInt64_at r j h; rwa [Nat.mul_one] at this

set_option maxRecDepth 100000 in
set_option maxHeartbeats 2000000 in
theorem implRouteText_any (A : Option Addr) (n c lo hi : Nat) (l : List (List Int)) (hI : allI l) (ht : n + tot (rrInt64 l) n ≤ 1048576) (w : World) (h : RdSS w lo hi A n (rrInt64 l)) (hhi : hi ≤ w.heap.size) (htb : Tb w) :
    Calls Tryd.prog 11 #[.slice A n c] w fun e w' => e = .returned (.string (rouS l)) ∧ Below w.heap.size w w' := by
  have hlen : l.length = n := by have := h.length; rwa [rrInt64_len] at this
  have HLN := hide hlen
  have HI := hide hI
  have H2 := hide h
  clear hlen hI h
  obtain ⟨i0, hi0, hz0, hz1, hz2⟩ := info_parts infoStr
  have I := hide (And.intro hi0 (And.intro hz0 (And.intro hz1 hz2)))
  clear hi0 hz0 hz1 hz2
  have HT0 := hide htb
  clear htb
  go_enter Tryd.func11, Tryd.ntmps11
  go_wp2_with fail
  go_loopw [3, 11] (fun wv ii wr => ∃ k : Nat, k ≤ n ∧ ii = .int .i64 k ∧ wr.ownsRow w.heap.size 9 1 wv k (strs ((l.take k).map rowT)) ∧ Below w.heap.size w wr) (fun _ ii _ => n - (intOf ii).toNat)
  case atStart => exact ⟨0, by omega, rfl, World.ownsRow_nil _ _ _ _, Below.refl _ _⟩
  case round =>
    obtain ⟨k, hk, rfl, ho, hbr⟩ := hrel
    generalize wr = W5 at *
    have hsz := hbr.size
    by_cases hlt : k < n
    · skip
      have hil : k < l.length := by rw [HLN.out]; exact hlt
      have htm := tot_mono (rrInt64 l) (show k + 1 ≤ n by omega)
      have hts := tot_succ (rrInt64 l) k (by rw [rrInt64_len]; exact hil)
      have hpl := preP_len HI.out (k := k) (by omega)
      obtain ⟨b, off, Ai, ni, ci, rfl, hb1, hb2, c0, hnm, hni, hrd⟩ := (H2.out.below hbr hhi).at_ hlt
      rw [rrInt64_at] at hts hni hrd
      rw [rInt64_len1] at hts hni
      have hgk : l.getD k [] = l[k] := by simp [List.getD, hil]
      rw [hgk] at hts hni hrd
      have HIR := hide (HI.out _ (List.getElem_mem hil))
      have HSN := hide (rouP_sn hil)
      have HTK : Hid ((l.take (k + 1)).map rowT = (l.take k).map rowT ++ [rowT l[k]]) := hide (by rw [List.take_succ_eq_append_getElem hil, List.map_append]; rfl)
      have HGK := hide hgk
      clear hgk
      obtain ⟨r, hr⟩ : ∃ r, l[k] = r := ⟨_, rfl⟩
      rw [hr] at hts hni hrd HIR HSN HTK
      clear hr HGK
      rw [hts] at htm
      rw [← hni] at htm
      have HNI := hide hni.symm
      have HRD := hide hrd
      clear hts hni hrd
      have hbw : b < W5.heap.size := by omega
      have HO := hide ho
      clear ho
      have HTR := hide (HT0.out.below hbr (Nat.le_refl _))
      go_wp2_with fail
      go_loopw [6, 17] (fun nv jj wr => ∃ j : Nat, j ≤ ni ∧ jj = .int .i64 j ∧ wr.ownsRow W5.heap.size 9 1 nv j (strs ((r.take j).map Lib.itoa)) ∧ Below W5.heap.size W5 wr) (fun _ jj _ => ni - (intOf jj).toNat)
      case atStart => exact ⟨0, by omega, rfl, World.ownsRow_nil _ _ _ _, Below.refl _ _⟩
      case round =>
        obtain ⟨j, hj, rfl, hon, hbi⟩ := hrel
        have hsi := hbi.size
        by_cases hjt : j < ni
        · skip
          have hjl : j < r.length := by rw [HNI.out]; exact hjt
          obtain ⟨b2, off2, hA2, hq1, hq2, hcl⟩ := (HRD.out.below hbi (by omega)).2 (by omega)
          subst hA2
          have e0 := hcl j _ (rInt64_cell hjl)
          obtain ⟨x0, x1⟩ := HIR.out _ (List.getElem_mem hjl)
          have HTJ : Hid ((r.take (j + 1)).map Lib.itoa = (r.take j).map Lib.itoa ++ [Lib.itoa r[j]]) := hide (by rw [List.take_succ_eq_append_getElem hjl, List.map_append]; rfl)
          obtain ⟨x, hx⟩ : ∃ x, r[j] = x := ⟨_, rfl⟩
          rw [hx] at e0 x0 x1 HTJ
          clear hx hcl
          obtain ⟨sx, hsx⟩ : ∃ s, str x = s := ⟨_, rfl⟩
          have HSX := hide hsx
          clear hsx
          have HON := hide hon
          clear hon
          have HTI := hide (HTR.out.below hbi (Nat.le_refl _))
          go_wp2_with fail
          refine (decimal_is x0 x1 HSX.out HTI.out).mono ?_
          rintro e w2 ⟨rfl, hb2⟩
          have hs2 := hb2.size
          have hbz := hbi.trans (hb2.mono hsi)
          have HON2 := hide (owns_below HON.out hb2)
          clear HON hb2 e0
          go_wp2_with (at_builtin; refine wpList_append_own _ rfl (.tmp 21) (.tmp 24) 51 rfl W5.heap.size 9 i0 (.string ⟨#[]⟩) 1 16 Tryd.underlying51 I.out.1 I.out.2.1 I.out.2.2.1 I.out.2.2.2 rfl (by decide) _ j _ rfl (HON2.out.alloc _) ⟨w2.heap.size, 0, none⟩ 1 1 [.string sx] rfl rfl (one_at8' _ _ _) (by simp [Value.oneCell']) (by unfold maxLen; omega) (by omega) (by simp; omega) ?_; intro v' wn hown' hgrow _)
          have HOW : Hid (wn.ownsRow W5.heap.size 9 1 v' (j + 1) (strs ((r.take (j + 1)).map Lib.itoa))) := hide (by rw [HTJ.out, strs_sn, ← str_bstr', HSX.out]; exact hown')
          have hbn := (hbz.alloc hbz.size _).grown hgrow (by simp; omega) (fun g hg => (HON2.out.lt g hg).1)
          clear hown' hgrow
          go_roundw
          case rel => exact ⟨j + 1, by omega, by go_num, HOW.out, hbn⟩
          case measure => simp [intOf]; omega
        · obtain rfl : j = ni := by omega
          have hlm : ((r.take j).map Lib.itoa).length = j := by rw [List.length_map, List.length_take, HNI.out]; omega
          have htk : r.take j = r := by rw [← HNI.out, List.take_length]
          have hjl2 : (Lib.join ((r.take j).map Lib.itoa) [47]).length ≤ 140737488355328 := by rw [htk]; have := rowP_len HIR.out r.length (Nat.le_refl _); rw [rowP_T] at this; have h3 := HNI.out; unfold rowT at this; omega
          have ER : Hid (bstr (Lib.join ((r.take j).map Lib.itoa) [47]) = bstr (rowT r)) := hide (by rw [htk]; rfl)
          have HLM := hide hlm
          have HLJ := hide hjl2
          have HON := hide hon
          clear hlm hjl2 hon htk
          generalize (r.take j).map Lib.itoa = LL at *
          go_wp2_with fail
          refine (join_is HON.out HLM.out (by omega) HLJ.out).mono ?_
          rintro e w2 ⟨rfl, hb2⟩
          have hs2 := hb2.size
          have hbz := hbi.trans (hb2.mono hsi)
          have HO2 := hide (owns_below HO.out hbz)
          have hbz2 := hbr.trans (hbz.mono hsz)
          obtain ⟨sr, hsr⟩ : ∃ s, bstr (Lib.join LL [47]) = s := ⟨_, rfl⟩
          rw [hsr]
          rw [hsr] at ER
          clear HO hb2 hsr
          go_wp2_with (at_builtin; refine wpList_append_own _ rfl (.tmp 27) (.tmp 30) 51 rfl w.heap.size 9 i0 (.string ⟨#[]⟩) 1 16 Tryd.underlying51 I.out.1 I.out.2.1 I.out.2.2.1 I.out.2.2.2 rfl (by decide) _ k _ rfl (HO2.out.alloc _) ⟨w2.heap.size, 0, none⟩ 1 1 [.string sr] rfl rfl (one_at8' _ _ _) (by simp [Value.oneCell']) (by unfold maxLen; omega) (by omega) (by simp; omega) ?_; intro v' wn hown' hgrow _)
          have HOW : Hid (wn.ownsRow w.heap.size 9 1 v' (k + 1) (strs ((l.take (k + 1)).map rowT))) := hide (by rw [HTK.out, strs_sn, ← ER.out]; exact hown')
          have hbn := (hbz2.alloc hbz2.size _).grown hgrow (by simp; omega) (fun g hg => (HO2.out.lt g hg).1)
          clear hown' hgrow
          go_roundw
          case rel => exact ⟨k + 1, by omega, by go_num, HOW.out, hbn⟩
          case measure => simp [intOf]; omega
    · obtain rfl : k = n := by omega
      have hlm : ((l.take k).map rowT).length = k := by rw [List.length_map, List.length_take, HLN.out]; omega
      have htk : l.take k = l := by rw [← HLN.out, List.take_length]
      have hlj : (Lib.join ((l.take k).map rowT) [32]).length ≤ 140737488355328 := by rw [htk, ← rouP_join, HLN.out]; have := rouP_len HI.out k (by rw [HLN.out]; exact Nat.le_refl _); omega
      have E : Hid (bstr (Lib.join ((l.take k).map rowT) [32]) = rouS l) := hide (by unfold rouS; rw [htk, rouP_join])
      have HLM := hide hlm
      have HLJ := hide hlj
      have HO := hide ho
      clear hlm hlj ho htk
      generalize (l.take k).map rowT = LL at *
      go_wp2_with fail
      refine (join_is HO.out HLM.out (by omega) HLJ.out).mono ?_
      rintro e w9 ⟨rfl, hb9⟩
      have hbz := hbr.trans (hb9.mono hsz)
      go_wp2_with fail
      go_ret
      exact ⟨retstr E.out, hbz⟩

end Go.Proofs.YtnbahmjimnhfbaaDoor
