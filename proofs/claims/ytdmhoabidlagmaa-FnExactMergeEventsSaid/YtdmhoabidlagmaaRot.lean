/-
  ROTATION and INSERTION SORT of events. No condition but those that each theorem names.
-/
import Derived.Test.YtdmhoabidlagmaaSw
namespace Go.Proofs.Ytdmhoabidlagmaa
open Go.RowKit
set_option linter.unusedVariables false
set_option linter.unusedSimpArgs false

set_option maxRecDepth 100000 in
set_option maxHeartbeats 2000000 in
theorem rotate_any (g n c lo : Nat) (fv : Value) (X U V Y : List Evt) (a m b : Nat) (ha : X.length = a) (hu : a + U.length = m) (hv : m + V.length = b) (h0 : 0 < U.length) (h1 : 0 < V.length) (hn : n ≤ 4096) (w : World) (h : w.ownsRow lo 33 4 (.slice (some ⟨g, 0, none⟩) n c) n (rEvent (X ++ (U ++ (V ++ Y))))) :
    Calls Try.prog 23 #[.slice (some ⟨g, 0, none⟩) n c, .int .i64 a, .int .i64 m, .int .i64 b, fv] w fun e w' => e = .returned (.tuple #[]) ∧ w'.ownsRow lo 33 4 (.slice (some ⟨g, 0, none⟩) n c) n (rEvent (X ++ (V ++ (U ++ Y)))) ∧ w.grownBy w' (some g) := by
  have HL : (X ++ (U ++ (V ++ Y))).length = n := by have := h.1; rw [rEvent_length] at this; omega
  have hbn : b ≤ n := by simp at HL; omega
  have H := hide h
  have HU : Hid (m - a = U.length) := hide (by omega)
  have HV : Hid (b - m = V.length) := hide (by omega)
  have ham : a < m := by omega
  have hmb : m < b := by omega
  have HA := hide ha
  clear h HL ha hu hv h0 h1
  obtain ⟨TG, hTG⟩ : ∃ TG, X ++ (V ++ (U ++ Y)) = TG := ⟨_, rfl⟩
  have HT := hide hTG
  rw [hTG]
  clear hTG
  go_enter Try.func23, Try.ntmps23
  go_wp2_with fail
  go_loopw [10, 11] (fun si sj wr => ∃ (i j : Nat) (X' U' V' Y' : List Evt), 0 < i ∧ 0 < j ∧ i ≤ m ∧ m + j ≤ n ∧ si = .int .i64 (i : Int) ∧ sj = .int .i64 (j : Int) ∧ Hid (X'.length + i = m ∧ U'.length = i ∧ V'.length = j ∧ X' ++ (V' ++ (U' ++ Y')) = TG) ∧ Hid (wr.ownsRow lo 33 4 (.slice (some ⟨g, 0, none⟩) n c) n (rEvent (X' ++ (U' ++ (V' ++ Y'))))) ∧ Hid (w.grownBy wr (some g))) (fun si sj _ => (intOf si).toNat + (intOf sj).toNat)
  case atStart => exact ⟨m - a, b - m, X, U, V, Y, by omega, by omega, by omega, by omega, by go_num, by go_num, hide ⟨by rw [HA.out]; omega, HU.out.symm, HV.out.symm, HT.out⟩, H, hide (gb_refl _ _)⟩
  case round =>
    clear H HU HV HA
    obtain ⟨i, j, X', U', V', Y', hi, hj, him, hjn, rfl, rfl, HP, HO, HG⟩ := hrel
    have hx' : X'.length = m - i := by have := HP.out.1; omega
    have HX' := hide hx'
    clear hx'
    by_cases hij : i = j
    · subst hij
      go_wp2_with fail
      with_reducible refine (swapRange_at g n c lo fv X' U' [] V' Y' (m - i) m i HX'.out HP.out.2.1 HP.out.2.2.1 (by simp; omega) hn _ _ _ (by omega) rfl rfl _ (by simpa using HO.out)).mono ?_
      rintro e w2 ⟨rfl, ho2, hg2⟩
      have HS := hide (show w2.ownsRow lo 33 4 (.slice (some ⟨g, 0, none⟩) n c) n (rEvent TG) by rw [← HP.out.2.2.2]; simpa using ho2)
      have HG2 := hide (gb_trans HG.out hg2)
      clear ho2 hg2
      go_wp2_with fail
      go_end0
      exact ⟨rfl, HS.out, HG2.out⟩
    · have z0 : ((i : Int) != (j : Int)) = true := by simp; omega
      by_cases hgt : j < i
      · have z1 : (i : Int) > (j : Int) := by omega
        have z2 : decide ((j : Int) < (i : Int)) = true := by simpa using z1
        go_wp2_with fail
        with_reducible refine (swapRange_at g n c lo fv X' (U'.take j) (U'.drop j) V' Y' (m - i) (m) (j) HX'.out (by rw [List.length_take, HP.out.2.1]; omega) HP.out.2.2.1 (by rw [List.length_drop, HP.out.2.1]; omega) hn _ _ _ (by omega) (by omega) rfl _ (by have q := HO.out; rw [← List.take_append_drop j U', List.append_assoc] at q; exact q)).mono ?_
        rintro e w2 ⟨rfl, ho2, hg2⟩
        have HS := hide ho2
        have HG2 := hide (gb_trans HG.out hg2)
        clear ho2 hg2
        go_wp2_with fail
        go_roundw
        case rel =>
          refine ⟨i - j, j, (X' ++ V'), (U'.drop j), (U'.take j), Y', by omega, by omega, by omega, by omega, by go_num, by go_num, hide ⟨by simp [HX'.out, HP.out.2.1, HP.out.2.2.1]; omega, by (simp [HP.out.2.1, HP.out.2.2.1]; try omega), by (simp [HP.out.2.1, HP.out.2.2.1]; try omega), ?_⟩, hide ?_, HG2⟩
          · rw [← HP.out.2.2.2]
            simp only [List.append_assoc]; rw [← List.append_assoc (U'.take j) (U'.drop j) Y', List.take_append_drop]
          · have q := HS.out
            simpa only [List.append_assoc] using q
        case measure => simp [intOf]; omega
      · have z1 : ¬ (i : Int) > (j : Int) := by omega
        have z2 : decide ((j : Int) < (i : Int)) = false := by simpa using z1
        have hlt : i < j := by omega
        go_wp2_with fail
        with_reducible refine (swapRange_at g n c lo fv X' U' (V'.take (j - i)) (V'.drop (j - i)) Y' (m - i) (m + j - i) (i) HX'.out HP.out.2.1 (by rw [List.length_drop, HP.out.2.2.1]; omega) (by rw [List.length_take, HP.out.2.2.1]; omega) hn _ _ _ (by omega) (by omega) rfl _ (by have q := HO.out; rw [← List.take_append_drop (j - i) V', List.append_assoc] at q; exact q)).mono ?_
        rintro e w2 ⟨rfl, ho2, hg2⟩
        have HS := hide ho2
        have HG2 := hide (gb_trans HG.out hg2)
        clear ho2 hg2
        go_wp2_with fail
        go_roundw
        case rel =>
          refine ⟨i, j - i, X', (V'.drop (j - i)), (V'.take (j - i)), (U' ++ Y'), by omega, by omega, by omega, by omega, by go_num, by go_num, hide ⟨by simp [HX'.out, HP.out.2.1, HP.out.2.2.1]; omega, by (simp [HP.out.2.1, HP.out.2.2.1]; try omega), by (simp [HP.out.2.1, HP.out.2.2.1]; try omega), ?_⟩, hide ?_, HG2⟩
          · rw [← HP.out.2.2.2]
            rw [← List.append_assoc (V'.take (j - i)) (V'.drop (j - i)), List.take_append_drop]
          · have q := HS.out
            simpa only [List.append_assoc] using q
        case measure => simp [intOf]; omega
end Go.Proofs.Ytdmhoabidlagmaa
