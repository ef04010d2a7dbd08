/-
  CONTRACTS of the laws' helpers on a slice of slices: copying, comparing, marking. No condition but those that each theorem names.
-/
import Derived.Test.YthpoapkdlcoikaaRows2
import Derived.Test.YthpoapkdlcoikaaFamBool
namespace Go.Proofs.Ythpoapkdlcoikaa
open Go.RowKit
set_option linter.unusedVariables false

/-- The rows of a list of lists. -/
def rrBool (l : List (List Bool)) : List (List Value) := l.map rBool
theorem rrBool_at (l : List (List Bool)) (k : Nat) : (rrBool l).getD k [] = rBool (l.getD k []) := by
  unfold rrBool
  rcases Nat.lt_or_ge k l.length with h | h
  · simp [List.getD, h]
  · simp [List.getD, h]; rfl
theorem rrBool_len (l : List (List Bool)) : (rrBool l).length = l.length := by simp [rrBool]
theorem rBool_len1 (l : List Bool) : (rBool l).length = l.length := by rw [rBool_length]; omega
theorem infoSBool : (Try.prog.info? 73).map (fun i => (i.zero, i.size, i.bytes)) = some (some (.slice none 0 0), 1, 24) := by kernel_rfl

set_option maxHeartbeats 1000000 in
theorem szBoolSS_ok (A : Option Addr) (n c lo hi : Nat) (l : List (List Bool)) (q : Int) (hq : (n : Int) + (tot (rrBool l) n : Nat) ≤ q) (hq2 : q ≤ 1048576) (w : World) (h : RdSS w lo hi A n (rrBool l)) :
    Calls Try.prog 13 #[.slice A n c, .int .i64 q] w fun e w' => e = .returned (.int .i64 (q - n - (tot (rrBool l) n : Nat))) ∧ w = w' := by
  have H2 := hide h
  have H1 := hide h.length
  clear h
  go_enter Try.func13, Try.ntmps13
  go_wp2
  go_loop [1, 5] (fun q' i => ∃ k : Nat, k ≤ n ∧ i = .int .i64 k ∧ q' = .int .i64 (q - n - (tot (rrBool l) k : Nat))) (fun _ i => n - (intOf i).toNat)
  case atStart => exact ⟨0, by omega, rfl, vint (by rw [tot_zero]; omega)⟩
  case round =>
    obtain ⟨k, hk, rfl, rfl⟩ := hrel
    have hm := tot_mono (rrBool l) hk
    by_cases hlt : k < n
    · obtain ⟨b, off, Ai, ni, ci, rfl, hb1, hb2, hc, hnm, hni, hr⟩ := H2.out.at_ hlt
      have hs := tot_succ (rrBool l) k (by rw [H1.out]; exact hlt)
      have hm2 := tot_mono (rrBool l) (show k + 1 ≤ n by omega)
      rw [← hni] at hs
      have HS := hide hs
      rw [hs] at hm2
      clear hni hr hs
      go_wp2_with (go_at_call 53; refine (szBoolS_ok Ai ni ci _ (by omega) (by omega) _).mono ?_; rintro e w' ⟨rfl, rfl⟩)
      go_round
      case rel => exact ⟨k + 1, by omega, by go_num, vint (by have := HS.out; omega)⟩
      case measure => simp [intOf]; omega
    · obtain rfl : k = n := by omega
      go_wp2
      go_ret
      exact ⟨rfl, rfl⟩

set_option maxHeartbeats 1000000 in
theorem szBoolSS_big (A : Option Addr) (n c lo hi : Nat) (l : List (List Bool)) (q : Int) (hq : q < (n : Int) + (tot (rrBool l) n : Nat)) (hq0 : 0 ≤ q) (hq2 : q ≤ 1048576) (hm : n ≤ maxLen) (w : World) (h : RdSS w lo hi A n (rrBool l)) :
    Calls Try.prog 13 #[.slice A n c, .int .i64 q] w fun e w' => e = .returned (.int .i64 (-1)) ∧ w = w' := by
  unfold maxLen at hm
  have H2 := hide h
  have H1 := hide h.length
  clear h
  by_cases hn : q < n
  · go_enter Try.func13, Try.ntmps13
    go_wp2
    go_ret
    exact ⟨rfl, rfl⟩
  · go_enter Try.func13, Try.ntmps13
    go_wp2
    go_loop [1, 5] (fun q' i => ∃ k : Nat, k ≤ n ∧ i = .int .i64 k ∧ (tot (rrBool l) k : Int) ≤ q - n ∧ q' = .int .i64 (q - n - (tot (rrBool l) k : Nat))) (fun _ i => n - (intOf i).toNat)
    case atStart => exact ⟨0, by omega, rfl, by rw [tot_zero]; omega, vint (by rw [tot_zero]; omega)⟩
    case round =>
      obtain ⟨k, hk, rfl, hle, rfl⟩ := hrel
      have hlt : k < n := by
        rcases Nat.lt_or_ge k n with h | h
        · exact h
        · obtain rfl : k = n := by omega
          omega
      obtain ⟨b, off, Ai, ni, ci, rfl, hb1, hb2, hc, hnm, hni, hr⟩ := H2.out.at_ hlt
      have hs := tot_succ (rrBool l) k (by rw [H1.out]; exact hlt)
      rw [← hni] at hs
      have HS := hide hs
      clear hni hr hs
      by_cases hf : (ni : Int) ≤ q - n - (tot (rrBool l) k : Nat)
      · go_wp2_with (go_at_call 53; refine (szBoolS_ok Ai ni ci _ (by omega) (by omega) _).mono ?_; rintro e w' ⟨rfl, rfl⟩)
        go_round
        case rel => exact ⟨k + 1, by omega, by go_num, by have := HS.out; omega, vint (by have := HS.out; omega)⟩
        case measure => simp [intOf]; omega
      · go_wp2_with (go_at_call 53; refine (szBoolS_big Ai ni ci _ (by omega) (by omega) (by omega) hnm _).mono ?_; rintro e w' ⟨rfl, rfl⟩)
        go_ret
        exact ⟨rfl, rfl⟩

set_option maxHeartbeats 1000000 in
theorem toBoolSS_any (A : Option Addr) (n c lo hi : Nat) (l : List (List Bool)) (hn : n ≤ 1048576) (hrow : ∀ r ∈ l, r.length ≤ 1048576) (w : World) (h : RdSS w lo hi A n (rrBool l)) (hhi : hi ≤ w.heap.size) :
    Calls Try.prog 15 #[.slice A n c] w fun e w' => ∃ v, e = .returned v ∧ OwnSS w' w.heap.size w'.heap.size 73 4 v n (rrBool l) ∧ Below w.heap.size w w' := by
  obtain ⟨i0, hi0, hz0, hz1, hz2⟩ := info_parts infoSBool
  go_enter Try.func15, Try.ntmps15
  go_wp2_with (at_make; refine wpList_make_full _ rfl (.tmp 6) (.tmp 6) 22 rfl w.heap.size 73 i0 (.slice none 0 0) 1 Try.underlying22 hi0 hz0 hz1 .i64 .i64 _ _ n rfl rfl rfl rfl (by rw [hz2]; omega) (by unfold maxLen; omega) (Nat.le_refl _) ?_; intro w1 hown hg)
  clear hi0 hz0 hz1 hz2
  have hlen := h.length
  have H1 := hide hlen
  have H2 := hide h
  have H3 := hide hrow
  clear h hrow hlen
  have hb1 : Below w.heap.size w w1 := (Below.refl _ _).grown hg (Nat.le_refl _) (by simp)
  have hs1 : w.heap.size < w1.heap.size := (hown.lt w.heap.size (by simp [Value.ownBlock])).2
  have hzl : (madeCells (Value.cells (.slice none 0 0)) (n * 1)).toList.length = n := by have := hown.1; omega
  generalize (madeCells (Value.cells (.slice none 0 0)) (n * 1)).toList = zs at *
  have Hz := hide hzl
  clear hzl
  go_loopw [4] (fun i wr => ∃ (k : Nat) (us : List Value), k ≤ n ∧ i = .int .i64 k ∧ us.length = k ∧ wr.ownsRow w.heap.size 73 1 (.slice (some ⟨w.heap.size, 0, none⟩) n n) n (us ++ zs.drop k) ∧ Rows wr (w.heap.size + 1) wr.heap.size 4 us ((rrBool l).take k) ∧ Below w.heap.size w wr ∧ w.heap.size < wr.heap.size) (fun i _ => n - (intOf i).toNat)
  case atStart =>
    exact ⟨0, [], by omega, rfl, rfl, by simpa using hown, Rows.nil _ _ _ _, hb1, hs1⟩
  case round =>
    obtain ⟨k, us, hk, rfl, hus, ho, hro, hbr, hsr⟩ := hrel
    have Hus := hide hus
    clear hus
    by_cases hlt : k < n
    · obtain ⟨b, off, Ai, ni, ci, rfl, hb1', hb2', hc, hnm, hni, hr⟩ := H2.out.at_ hlt
      have c0 : wr.cell? ⟨b, off + k, none⟩ = some (.slice Ai ni ci) := (hbr.cell (p := ⟨b, _, none⟩) (by show b < _; omega)).trans hc
      rw [rrBool_at] at hr hni
      have hr2 := hr.below hbr hhi
      have hnl : (l.getD k []).length = ni := by rw [hni, rBool_len1]
      have hn2 : ni ≤ 1048576 := by
        rw [← hnl]
        have hkl : k < l.length := by have := H1.out; rw [rrBool_len] at this; omega
        rw [show l.getD k [] = l[k] by simp [List.getD, hkl]]
        exact H3.out _ (List.getElem_mem hkl)
      have HNL := hide hnl
      have HR := hide hr2
      clear hc hr hni hnl hr2
      go_wp2_with fail
      refine (toBoolS_any Ai ni ci lo hi (l.getD k []) hn2 _ HNL.out HR.out (by omega)).mono ?_
      rintro e w2 ⟨v2, rfl, ho2, hb2⟩
      have hs2 := hb2.size
      obtain ⟨A2, c2, rfl, _, _, _⟩ := ho2.rd
      have hoo := owns_below ho hb2
      have hro2 := hro.below hb2 (Nat.le_refl _)
      have hget : (us ++ zs.drop k)[k]? = some (zs[k]'(by have := Hz.out; omega)) := by
        rw [List.getElem?_append_right (by have := Hus.out; omega), show k - us.length = 0 by have := Hus.out; omega, List.getElem?_drop, Nat.add_zero]
        exact List.getElem?_eq_getElem _
      have d0 : w2.cell? ⟨w.heap.size, k, none⟩ = some (zs[k]'(by have := Hz.out; omega)) := (hoo.cellAt _ (by omega)).trans hget
      generalize zs[k]'(by have := Hz.out; omega) = u0 at d0
      have f0 := hoo.frozenAt k
      have ho2' := hide ho2
      clear hget ho2
      go_wp2_with fail
      go_roundw
      case rel =>
        have hrk : (rrBool l).take (k + 1) = (rrBool l).take k ++ [rBool (l.getD k [])] := by
          have hkl : k < (rrBool l).length := by have := H1.out; omega
          rw [List.take_succ_eq_append_getElem hkl, ← rrBool_at]
          simp [List.getD, hkl]
        refine ⟨k + 1, us ++ [.slice A2 ni c2], by omega, by go_num, by have := Hus.out; simp [this], ?_, ?_, (hbr.trans (hb2.mono (by omega))).setCell (Nat.le_refl _) _, by simp [World.setCell]; omega⟩
        · have s := (hoo.stored k (.slice A2 ni c2)).1
          rw [set_snoc Hus.out (by have := Hz.out; omega)] at s
          exact s
        · rw [hrk]
          have hnew : Own w2 wr.heap.size w2.heap.size 4 1 (.slice A2 ni c2) (rBool (l.getD k [])).length (rBool (l.getD k [])) := by rw [rBool_len1, HNL.out]; exact ho2'.out
          have hall := hro2.snoc hnew (by omega) (Nat.le_refl _) hs2
          have ht : Tch w.heap.size (w.heap.size + 1) w2 (w2.setCell ⟨w.heap.size, k, none⟩ (.slice A2 ni c2)) := tch_set (Tch.refl _ _ _) (Nat.le_refl _) (by omega) _ _
          have hz := hall.tch ht (.inr (Nat.le_refl _))
          simpa [World.setCell] using hz
      case measure => simp [intOf]; omega
    · obtain rfl : k = n := by omega
      go_wp2
      go_ret
      have e1 : us ++ zs.drop k = us := by rw [← Hz.out, List.drop_length, List.append_nil]
      have e2 : (rrBool l).take k = rrBool l := by rw [← H1.out]; exact List.take_length
      rw [e1] at ho
      rw [e2] at hro
      exact ⟨_, rfl, ⟨us, Own.of_owns ho, hro.mono (by omega) (Nat.le_refl _)⟩, hbr⟩

set_option maxRecDepth 100000 in
set_option maxHeartbeats 1000000 in
theorem eqBoolSS_same (A A' : Option Addr) (n c c' lo hi lo' hi' : Nat) (l : List (List Bool)) (hn : n ≤ 1048576) (hrow : ∀ r ∈ l, r.length ≤ 1048576) (w : World) (h : RdSS w lo hi A n (rrBool l)) (h' : RdSS w lo' hi' A' n (rrBool l)) (hhi : hi ≤ w.heap.size) (hhi' : hi' ≤ w.heap.size) :
    Calls Try.prog 18 #[.slice A n c, .slice A' n c'] w fun e w' => e = .returned (.bool true) ∧ Below w.heap.size w w' := by
  have H1 := hide h.length
  have H2 := hide h
  have H3 := hide h'
  have H4 := hide hrow
  clear h h' hrow
  go_enter Try.func18, Try.ntmps18
  go_wp2
  go_loopw [5] (fun i wr => ∃ k : Nat, k ≤ n ∧ i = .int .i64 k ∧ Below w.heap.size w wr) (fun i _ => n - (intOf i).toNat)
  case atStart => exact ⟨0, by omega, rfl, Below.refl _ _⟩
  case round =>
    obtain ⟨k, hk, rfl, hbr⟩ := hrel
    by_cases hlt : k < n
    · obtain ⟨b, off, Ai, ni, ci, rfl, hb1, hb2, hc, hnm, hni, hr⟩ := H2.out.at_ hlt
      obtain ⟨b', off', Ai', ni', ci', rfl, hb1', hb2', hc', hnm', hni', hr'⟩ := H3.out.at_ hlt
      obtain rfl : ni = ni' := by rw [hni, hni']
      have c0 : wr.cell? ⟨b, off + k, none⟩ = some (.slice Ai ni ci) := (hbr.cell (p := ⟨b, _, none⟩) (by show b < _; omega)).trans hc
      have d0 : wr.cell? ⟨b', off' + k, none⟩ = some (.slice Ai' ni ci') := (hbr.cell (p := ⟨b', _, none⟩) (by show b' < _; omega)).trans hc'
      rw [rrBool_at] at hr hr' hni
      have hnl : (l.getD k []).length = ni := by rw [hni, rBool_len1]
      have hn2 : ni ≤ 1048576 := by
        rw [← hnl]
        have hkl : k < l.length := by have := H1.out; rw [rrBool_len] at this; omega
        rw [show l.getD k [] = l[k] by simp [List.getD, hkl]]
        exact H4.out _ (List.getElem_mem hkl)
      have HNL := hide hnl
      have HR := hide (hr.below hbr hhi)
      have HR' := hide (hr'.below hbr hhi')
      have hsz := hbr.size
      clear hc hc' hr hr' hni hnl hni'
      go_wp2_with fail
      go_still_tail 8, (by kernel_rfl)
      go_wp2_with fail
      refine (eqBoolS_same Ai Ai' ni ci ci' lo hi lo' hi' (l.getD k []) hn2 _ HNL.out HR.out.drew HR'.out.drew (by simp; omega) (by simp; omega)).mono ?_
      rintro e w2 ⟨rfl, hb2⟩
      go_wp2_with fail
      go_roundw
      case rel => exact ⟨k + 1, by omega, by go_num, hbr.drew.trans (hb2.mono (by simpa using hsz))⟩
      case measure => simp [intOf]; omega
    · obtain rfl : k = n := by omega
      go_wp2
      go_ret
      exact ⟨rfl, hbr⟩

end Go.Proofs.Ythpoapkdlcoikaa
