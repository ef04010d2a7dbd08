/-
  THE DIRECTIONS OF A MOTION: the reference's and the program's. No condition but those that each theorem names.
-/
import Derived.Test.YtoklcjpokffocaaMo
import Derived.Test.YtoklcjpokffocaaMarkSS
import Derived.Deep.AppendLies
import Derived.Deep.DeepCutAuto
namespace Go.Proofs.Ytoklcjpokffocaa
open Go.RowKit
set_option linter.unusedVariables false

/-- The direction of a motion after k steps. -/
def moAt (st : Int) (l : List Int) (k : Nat) : Int := (l.take k).foldl (fun d x => (d + x) % 24) st
theorem moAt_zero (st : Int) (l : List Int) : moAt st l 0 = st := rfl
theorem moAt_succ (st : Int) (l : List Int) {k : Nat} (hk : k < l.length) : moAt st l (k + 1) = (moAt st l k + l.getD k 0) % 24 := by
  unfold moAt
  rw [List.take_add_one, show l[k]? = some (l.getD k 0) by simp [List.getD, hk]]
  simp [List.foldl_append]
theorem moAt_big (st : Int) (l : List Int) {k : Nat} (hk : l.length ≤ k) : moAt st l k = moAt st l l.length := by
  unfold moAt
  rw [List.take_of_length_le hk, List.take_length]
theorem moAt_bd {st : Int} (l : List Int) (h0 : 0 ≤ st) (h1 : st ≤ 23) (k : Nat) : 0 ≤ moAt st l k ∧ moAt st l k ≤ 23 := by
  induction k with
  | zero => exact ⟨h0, h1⟩
  | succ k ih =>
    by_cases hk : k < l.length
    · rw [moAt_succ st l hk]; omega
    · rw [moAt_big st l (k := k + 1) (by omega), ← moAt_big st l (k := k) (by omega)]; exact ih
def trk (st : Int) (l : List Int) (k : Nat) : List Int := (List.range (k + 1)).map (moAt st l)
theorem trk_len (st : Int) (l : List Int) (k : Nat) : (trk st l k).length = k + 1 := by simp [trk]
theorem trk_succ (st : Int) (l : List Int) (k : Nat) : trk st l (k + 1) = trk st l k ++ [moAt st l (k + 1)] := by
  unfold trk
  rw [show k + 1 + 1 = (k + 1) + 1 from rfl, List.range_succ, List.map_append]
  rfl
theorem trk_at (st : Int) (l : List Int) {k j : Nat} (hj : j ≤ k) : (trk st l k).getD j 0 = moAt st l j := by
  have : j < k + 1 := by omega
  simp [trk, List.getD, this]
theorem rInt64_sn2 (l : List Int) (x : Int) : rInt64 (l ++ [x]) = rInt64 l ++ [.int .i64 x] := by simp [rInt64, rows, cInt64]

theorem cell_one_t (w : World) (v : Value) (T : TypeId) (b : Nat) (hb : b = w.heap.size) : ∀ (j : Nat) (u : Value), [v][j]? = some u → (w.alloc (.cells #[v] T)).cell? ((⟨b, 0, none⟩ : Addr).add j) = some u := by
  subst hb
  intro j u hu
  rw [Go.WideShapes.add_plain, Nat.zero_add, new_cell]
  simpa using hu

set_option maxHeartbeats 2000000 in
theorem l16At_any (b : Nat) (A : Option Addr) (n c lo hi : Nat) (st : Int) (l : List Int) (hl : l.length = n) (hm : n ≤ maxLen) (hs : stepsV l = true) (h0 : 0 ≤ st) (h1 : st ≤ 23) (k : Nat) (hk : k ≤ maxLen) (w : World) (hB : Box w b [.int .i64 st, .slice A n c]) (h : Rd w lo hi 1 A n (rInt64 l)) :
    Calls Try.prog 27 #[.pointer (some ⟨b, 0, none⟩), .int .i64 k] w fun e w' => e = .returned (.int .i64 (moAt st l k)) ∧ w' = w := by
  unfold maxLen at hm hk
  have c0 := hB 0 _ rfl
  have c1 := hB 1 _ rfl
  have H2 := hide h
  have HS := hide hs
  have HL := hide hl
  clear h hB hs hl
  go_enter Try.func27, Try.ntmps27
  go_wp2
  go_loop [5, 6] (fun d i => ∃ j : Nat, j ≤ n ∧ j ≤ k ∧ i = .int .i64 j ∧ d = .int .i64 (moAt st l j)) (fun _ i => n - (intOf i).toNat)
  case atStart => exact ⟨0, by omega, by omega, rfl, rfl⟩
  case round =>
    obtain ⟨j, hj, hjk, rfl, rfl⟩ := hrel
    obtain ⟨d0, d1⟩ := moAt_bd l h0 h1 j
    by_cases hlt : j < k
    · by_cases hln : j < n
      · have E := hide (moAt_succ st l (k := j) (by rw [HL.out]; exact hln))
        obtain ⟨x0, x1⟩ := stepsV_at HS.out j (by rw [HL.out]; exact hln)
        obtain ⟨ba, off, rfl, _, _, hcc⟩ := mo_cells H2.out HL.out (by omega)
        have cx := hcc j hln
        clear hcc
        generalize l.getD j 0 = x at *
        generalize moAt st l j = d at *
        go_wp2_with (go_at_call 51; refine (l02Mod_any _ (by omega) (by omega) _).mono ?_; rintro e w' ⟨rfl, hw⟩; obtain rfl := hw.symm)
        go_round
        case rel => exact ⟨j + 1, by omega, by omega, by go_num, by rw [E.out]⟩
        case measure => simp [intOf]; omega
      · obtain rfl : j = n := by omega
        have E := hide (moAt_big st l (k := k) (by rw [HL.out]; omega))
        have z1 : decide ((j : Int) < (k : Int)) = true := by simp; omega
        have z2 : decide ((j : Int) < (j : Int)) = false := by simp
        clear hj hln d0 d1
        go_wp2_with fail
        go_ret
        exact ⟨ret_int (by rw [E.out, HL.out]), rfl⟩
    · obtain rfl : j = k := by omega
      go_wp2
      go_ret
      exact ⟨rfl, rfl⟩

set_option maxHeartbeats 400000 in
theorem at_any (A : Option Addr) (n c lo hi : Nat) (T : List Int) (hl : T.length = n) (hm : n ≤ maxLen) (h0 : 0 < n) (k : Nat) (hk : k ≤ maxLen) (w : World) (h : Rd w lo hi 1 A n (rInt64 T)) :
    Calls Try.prog 47 #[.slice A n c, .int .i64 k] w fun e w' => e = .returned (.int .i64 (T.getD (min k (n - 1)) 0)) ∧ w' = w := by
  unfold maxLen at hm hk
  obtain ⟨ba, off, rfl, _, _, hcc⟩ := mo_cells h hl (by omega)
  have cx := hcc (min k (n - 1)) (by omega)
  clear hcc h
  obtain ⟨j, hj⟩ : ∃ j, min k (n - 1) = j := ⟨_, rfl⟩
  rw [hj] at cx ⊢
  generalize T.getD j 0 = x at *
  rcases Nat.lt_or_ge (n - 1) k with q | q
  · obtain rfl : n = j + 1 := by omega
    have q1 : (j : Int) < (k : Int) := by omega
    go_enter Try.func47, Try.ntmps47
    go_wp2_with fail
    go_ret
    exact ⟨rfl, rfl⟩
  · obtain rfl : j = k := by omega
    have q1 : (j : Int) ≤ (n : Int) - 1 := by omega
    go_enter Try.func47, Try.ntmps47
    go_wp2_with fail
    go_ret
    exact ⟨rfl, rfl⟩

set_option maxRecDepth 100000 in
set_option maxHeartbeats 2000000 in
theorem track_any (A : Option Addr) (n c lo hi : Nat) (st : Int) (l : List Int) (hl : l.length = n) (hm : n ≤ 1000000) (hs : stepsV l = true) (h0 : 0 ≤ st) (h1 : st ≤ 23) (w : World) (hw : hi ≤ w.heap.size) (h : Rd w lo hi 1 A n (rInt64 l)) :
    Calls Try.prog 45 #[.agg #[.int .i64 st, .slice A n c]] w fun e w' => ∃ v, e = .returned v ∧ Own w' w.heap.size w'.heap.size 2 1 v (n + 1) (rInt64 (trk st l n)) ∧ Below w.heap.size w w' := by
  obtain ⟨i0, hi0, hz0, hz1, hz2⟩ := info_parts infoInt64
  have I := hide (And.intro hi0 (And.intro hz0 (And.intro hz1 hz2)))
  clear hi0 hz0 hz1 hz2
  have H2 := hide h
  have HS := hide hs
  have HL := hide hl
  clear h hs hl
  go_enter Try.func45, Try.ntmps45
  go_wp2_with fail
  go_loopw [3, 5, 12] (fun v _ i wr => ∃ k : Nat, k ≤ n ∧ i = .int .i64 k ∧ Hid (wr.ownsRow w.heap.size 2 1 v (k + 1) (rInt64 (trk st l k))) ∧ Below w.heap.size w wr) (fun _ _ i _ => n - (intOf i).toNat)
  case atStart =>
    refine ⟨0, by omega, rfl, hide ?_, ?_⟩
    · have q := World.ownsRow_lit (base := w.heap.size) (size := 1) (e := 2) (w.alloc (.cells #[.int .i64 st, .slice A n c] 27)) #[.int .i64 st] 1 (by simp) (by decide) rfl
      rw [World.size_alloc] at q
      exact q
    · refine Below.alloc ?_ (by simp) _
      exact below_al _ _
  case round =>
    obtain ⟨k, hk, rfl, HO, hbr⟩ := hrel
    have hsz := hbr.size
    by_cases hlt : k < n
    · obtain ⟨d0, d1⟩ := moAt_bd l h0 h1 k
      have E := hide (moAt_succ st l (k := k) (by rw [HL.out]; exact hlt))
      have TS := hide (trk_succ st l k)
      obtain ⟨x0, x1⟩ := stepsV_at HS.out k (by rw [HL.out]; exact hlt)
      obtain ⟨ba, off, rfl, hb1, hb2, hcc⟩ := mo_cells (H2.out.below hbr hw) HL.out (by omega)
      have cx := hcc k hlt
      have hbw : ba < wr.heap.size := by omega
      obtain ⟨Av, cv, rfl, hncv, hcmv, hrv⟩ := (Own.of_owns HO.out).rd
      obtain ⟨bv, ov, rfl, hv1, hv2, hcv⟩ := mo_cells hrv (trk_len st l k) (by omega)
      have cy := hcv k (by omega)
      rw [trk_at st l (Nat.le_refl k)] at cy
      clear hcc hcv hrv
      have z1 : (k : Int) < (n : Int) := by omega
      unfold maxLen at hcmv
      generalize l.getD k 0 = x at *
      generalize moAt st l k = d at *
      generalize moAt st l (k + 1) = d2 at *
      go_wp2_with (first | (go_at_call 54; refine (turned_any _ _ (by omega) (by omega) (by omega) (by omega) _).mono ?_; rintro e w' ⟨rfl, hw⟩; obtain rfl := hw.symm) | (at_builtin; refine wpList_append_own _ rfl (.tmp 16) (.tmp 25) 25 rfl w.heap.size 2 i0 (.int .i64 0) 1 8 Try.underlying25 I.out.1 I.out.2.1 I.out.2.2.1 I.out.2.2.2 rfl (by decide) _ _ _ rfl (HO.out.alloc _) ⟨wr.heap.size, 0, none⟩ 1 1 [.int .i64 (tur d x)] rfl rfl (cell_one_t _ _ _ _ rfl) (by simp [Value.oneCell']) (by unfold maxLen; omega) (by omega) (by simp; omega) ?_; intro v' wn hown' hgrow _))
      go_roundw
      case rel => exact ⟨k + 1, by omega, by go_num, by rw [TS.out, rInt64_sn2, E.out]; exact hide hown', (hbr.alloc hsz _).grown hgrow (by simp; omega) (fun g hg => (HO.out.lt g hg).1)⟩
      case measure => simp [intOf]; omega
    · obtain rfl : k = n := by omega
      go_wp2_with fail
      go_ret
      exact ⟨_, rfl, Own.of_owns HO.out, hbr⟩
end Go.Proofs.Ytoklcjpokffocaa
