/-
  THE STABLE SORT of events. No condition but those that each theorem names.
-/
import Derived.Test.YtdmhoabidlagmaaSym2
namespace Go.Proofs.Ytdmhoabidlagmaa
open Go.RowKit
set_option linter.unusedVariables false
set_option linter.unusedSimpArgs false

theorem stS_app (A B : List Evt) : stS (stS A ++ stS B) = stS (A ++ B) := st_eq (stS_srt _) ((stS_sm _).trans (Sm.app (stS_sm _) (stS_sm _)))
/-- Blocks of s events, each in order. -/
def blkF (s : Nat) : Nat → List Evt → List Evt
  | 0, L => L
  | f + 1, L => if L.length ≤ s then stS L else stS (L.take s) ++ blkF s f (L.drop s)
theorem blkF_succ (s f : Nat) (L : List Evt) : blkF s (f + 1) L = if L.length ≤ s then stS L else stS (L.take s) ++ blkF s f (L.drop s) := rfl
def blk (s : Nat) (L : List Evt) : List Evt := blkF s L.length L
theorem blkF_len (s : Nat) : ∀ (f : Nat) (L : List Evt), (blkF s f L).length = L.length := by
  intro f
  induction f with
  | zero => intro L; rfl
  | succ f ih =>
    intro L
    unfold blkF
    split
    · exact stS_len L
    · rw [List.length_append, stS_len, ih, List.length_take, List.length_drop]; omega
theorem blk_len (s : Nat) (L : List Evt) : (blk s L).length = L.length := blkF_len s _ L
theorem blkF_fuel {s : Nat} (hs : 0 < s) : ∀ (f f' : Nat) (L : List Evt), L.length ≤ f → L.length ≤ f' → blkF s f L = blkF s f' L := by
  intro f
  induction f with
  | zero =>
    intro f' L h h'
    obtain rfl := List.eq_nil_of_length_eq_zero (by omega : L.length = 0)
    cases f' with
    | zero => rfl
    | succ f' => rfl
  | succ f ih =>
    intro f' L h h'
    cases f' with
    | zero =>
      obtain rfl := List.eq_nil_of_length_eq_zero (by omega : L.length = 0)
      rfl
    | succ f' =>
      unfold blkF
      by_cases hl : L.length ≤ s
      · rw [if_pos hl, if_pos hl]
      · rw [if_neg hl, if_neg hl, ih f' (L.drop s) (by rw [List.length_drop]; omega) (by rw [List.length_drop]; omega)]
theorem blk_one {s : Nat} {L : List Evt} (h : L.length ≤ s) : blk s L = stS L := by
  unfold blk
  cases hl : L.length with
  | zero =>
    obtain rfl := List.eq_nil_of_length_eq_zero hl
    rfl
  | succ k =>
    unfold blkF
    rw [if_pos h]
theorem blk_cut {s : Nat} (hs : 0 < s) {L : List Evt} (h : s < L.length) : blk s L = stS (L.take s) ++ blk s (L.drop s) := by
  unfold blk
  cases hl : L.length with
  | zero => omega
  | succ k =>
    rw [blkF_succ, if_neg (by omega), blkF_fuel hs k (L.drop s).length (L.drop s) (by rw [List.length_drop]; omega) (Nat.le_refl _)]
theorem blk_cut' {s : Nat} (hs : 0 < s) {L : List Evt} (h : s ≤ L.length) : blk s L = stS (L.take s) ++ blk s (L.drop s) := by
  rcases Nat.lt_or_ge s L.length with h1 | h1
  · exact blk_cut hs h1
  · rw [blk_one h1, List.take_of_length_le h1, List.drop_of_length_le h1]
    rw [blk_one (L := []) (by simp)]
    simp [stS]
theorem blk_app {s : Nat} (hs : 0 < s) (k : Nat) : ∀ (A B : List Evt), A.length = s * k → blk s (A ++ B) = blk s A ++ blk s B := by
  induction k with
  | zero =>
    intro A B h
    obtain rfl := List.eq_nil_of_length_eq_zero (by simpa using h : A.length = 0)
    rw [blk_one (L := []) (by simp)]
    rfl
  | succ k ih =>
    intro A B h
    have hA : s ≤ A.length := by rw [h, Nat.mul_succ]; omega
    rw [blk_cut' hs (L := A ++ B) (by rw [List.length_append]; omega), blk_cut' hs hA, List.take_append_of_le_length hA, List.drop_append_of_le_length hA, ih (A.drop s) B (by rw [List.length_drop, h, Nat.mul_succ]; omega), List.append_assoc]
/-- One block more. -/
theorem blk_more {s : Nat} (hs : 0 < s) {L : List Evt} {a k : Nat} (ha : a = s * k) (h : a ≤ L.length) {t : Nat} (ht : t ≤ s) : blk s (L.take (a + t)) = blk s (L.take a) ++ stS ((L.drop a).take t) := by
  have e : L.take (a + t) = L.take a ++ (L.drop a).take t := by rw [List.take_add]
  rw [e, blk_app hs k _ _ (by rw [List.length_take, ha]; rw [ha] at h; omega), blk_one (L := (L.drop a).take t) (by rw [List.length_take]; omega)]

theorem insertion_at (g n c lo : Nat) (X M Y : List Evt) (a b : Nat) (ha : X.length = a) (hb : a + M.length = b) (hn : n ≤ 4096) (xa xb : Int) (ea : xa = a) (eb : xb = b) (w : World) (h : w.ownsRow lo 33 4 (.slice (some ⟨g, 0, none⟩) n c) n (rEvent (X ++ (M ++ Y)))) :
    Calls Try.prog 21 #[.slice (some ⟨g, 0, none⟩) n c, .int .i64 xa, .int .i64 xb, .func (.func 16) #[] #[]] w fun e w' => e = .returned (.tuple #[]) ∧ w'.ownsRow lo 33 4 (.slice (some ⟨g, 0, none⟩) n c) n (rEvent (X ++ (stS M ++ Y))) ∧ w.grownBy w' (some g) := by
  subst ea eb
  exact insertion_any g n c lo X M Y a b ha hb hn w h

set_option maxRecDepth 100000 in
set_option maxHeartbeats 4000000 in
theorem stable_any (g n c lo : Nat) (L : List Evt) (hn : n ≤ 4096) (w : World) (h : w.ownsRow lo 33 4 (.slice (some ⟨g, 0, none⟩) n c) n (rEvent (L))) :
    Calls Try.prog 20 #[.slice (some ⟨g, 0, none⟩) n c, .int .i64 n, .func (.func 16) #[] #[]] w fun e w' => e = .returned (.tuple #[]) ∧ w'.ownsRow lo 33 4 (.slice (some ⟨g, 0, none⟩) n c) n (rEvent (stS L)) ∧ w.grownBy w' (some g) := by
  have HL : Hid (L.length = n) := hide (by have := h.1; rw [rEvent_length] at this; omega)
  have H := hide h
  have hsy := symMerge_all g n c lo hn 9000
  unfold SymOk at hsy
  have SY := hide hsy
  clear h hsy
  go_enter Try.func20, Try.ntmps20
  go_wp2_with fail
  go_loopw [7, 8] (fun sa sb wr => ∃ a b k : Nat, a + 20 ≤ b ∧ b ≤ a + 20 ∧ a ≤ n ∧ sa = .int .i64 (a : Int) ∧ sb = .int .i64 (b : Int) ∧ Hid (a = 20 * k) ∧ Hid (wr.ownsRow lo 33 4 (.slice (some ⟨g, 0, none⟩) n c) n (rEvent (blk 20 (L.take a) ++ L.drop a))) ∧ Hid (w.grownBy wr (some g))) (fun sa _ _ => n + 20 - (intOf sa).toNat)
  case atStart => exact ⟨0, 20, 0, by omega, by omega, by omega, by first | rfl | go_num, by first | rfl | go_num, hide rfl, hide (by rw [List.take_zero, List.drop_zero]; rw [blk_one (L := []) (by simp)]; exact H.out), hide (gb_refl _ _)⟩
  case round =>
    clear H
    obtain ⟨a, b, k, hab1, hab2, han, rfl, rfl, HK, HO, HG⟩ := hrel
    by_cases hbn : b ≤ n
    · have z1 : (b : Int) ≤ (n : Int) := by omega
      go_wp2_with fail
      with_reducible refine (insertion_at g n c lo (blk 20 (L.take a)) ((L.drop a).take 20) (L.drop (a + 20)) a b (by rw [blk_len, List.length_take]; have := HL.out; omega) (by rw [List.length_take, List.length_drop]; have := HL.out; omega) hn _ _ rfl rfl _ (by
        have q := HO.out
        rw [← List.take_append_drop 20 (L.drop a), List.drop_drop] at q
        exact q)).mono ?_
      rintro e w2 ⟨rfl, ho2, hg2⟩
      have HO2 := hide (show w2.ownsRow lo 33 4 (.slice (some ⟨g, 0, none⟩) n c) n (rEvent (blk 20 (L.take b) ++ L.drop b)) by
        rw [show b = a + 20 by omega, blk_more (by omega) HK.out (by have := HL.out; omega) (Nat.le_refl 20), List.append_assoc]
        exact ho2)
      have HG2 := hide (gb_trans HG.out hg2)
      have HK2 : Hid (b = 20 * (k + 1)) := hide (by have := HK.out; omega)
      clear ho2 hg2 HK HO HG
      go_wp2_with fail
      go_roundw
      case rel => exact ⟨b, b + 20, k + 1, by omega, by omega, by omega, rfl, by go_num, HK2, HO2, HG2⟩
      case measure => simp [intOf]; omega
    · have z1 : ¬ (b : Int) ≤ (n : Int) := by omega
      go_wp2_with fail
      with_reducible refine (insertion_at g n c lo (blk 20 (L.take a)) (L.drop a) [] a n (by rw [blk_len, List.length_take]; have := HL.out; omega) (by rw [List.length_drop]; have := HL.out; omega) hn _ _ rfl rfl _ (by
        rw [List.append_nil]
        exact HO.out)).mono ?_
      rintro e w3 ⟨rfl, ho3, hg3⟩
      have HO3 := hide (show w3.ownsRow lo 33 4 (.slice (some ⟨g, 0, none⟩) n c) n (rEvent (blk 20 L)) by
        have q := blk_more (s := 20) (by omega) HK.out (L := L) (by have := HL.out; omega) (t := n - a) (by omega)
        rw [show a + (n - a) = L.length by have := HL.out; omega, List.take_length, show (L.drop a).take (n - a) = L.drop a from List.take_of_length_le (by rw [List.length_drop]; have := HL.out; omega)] at q
        rw [q]
        rw [List.append_nil] at ho3
        exact ho3)
      have HG3 := hide (gb_trans HG.out hg3)
      clear ho3 hg3 HK HO HG
      go_wp2_with fail
      go_loopw [6, 7, 8, 9] (fun ss _ _ _ wr => ∃ s : Nat, 20 ≤ s ∧ s ≤ 8192 ∧ ss = .int .i64 (s : Int) ∧ Hid (wr.ownsRow lo 33 4 (.slice (some ⟨g, 0, none⟩) n c) n (rEvent (blk s L))) ∧ Hid (w.grownBy wr (some g))) (fun ss _ _ _ _ => 8192 - (intOf ss).toNat)
      case atStart => exact ⟨20, by omega, by omega, by first | rfl | go_num, HO3, HG3⟩
      case round =>
        clear HO3 HG3
        obtain ⟨s, hs1, hs2, rfl, HO, HG⟩ := hrel
        by_cases hsn : s < n
        · have z2 : (s : Int) < (n : Int) := by omega
          have w1 : IntKind.i64.wrap (2 * (s : Int)) = 2 * (s : Int) := IntWalk.i64_in _ (by omega)
          have w2' : IntKind.i64.wrap ((s : Int) * 2) = (s : Int) * 2 := IntWalk.i64_in _ (by omega)
          have HO0 := hide (show wr.ownsRow lo 33 4 (.slice (some ⟨g, 0, none⟩) n c) n (rEvent (blk (2 * s) (L.take 0) ++ blk s (L.drop 0))) by rw [List.take_zero, List.drop_zero]; rw [blk_one (L := []) (by simp)]; exact HO.out)
          generalize wr = w5 at *
          clear HO
          go_wp2_with fail
          go_loopw [7, 8] (fun sa sb wr => ∃ a b k : Nat, a + 2 * s ≤ b ∧ b ≤ a + 2 * s ∧ a ≤ n ∧ sa = .int .i64 (a : Int) ∧ sb = .int .i64 (b : Int) ∧ Hid (a = 2 * s * k) ∧ Hid (wr.ownsRow lo 33 4 (.slice (some ⟨g, 0, none⟩) n c) n (rEvent (blk (2 * s) (L.take a) ++ blk s (L.drop a)))) ∧ Hid (w.grownBy wr (some g))) (fun sa sb _ => n + 2 * s - (intOf sa).toNat)
          case atStart => exact ⟨0, 2 * s, 0, by omega, by omega, by omega, rfl, by first | rfl | go_num | exact vint (by omega), hide (by omega), HO0, HG⟩
          case round =>
            clear HO0 HG
            obtain ⟨a, b, k, hab1, hab2, han, rfl, rfl, HK, HO, HG⟩ := hrel
            by_cases hbn2 : b ≤ n
            · have z3 : (b : Int) ≤ (n : Int) := by omega
              have hP : ((L.drop a).take s).length = s := by rw [List.length_take, List.length_drop]; have := HL.out; omega
              have hQ : ((L.drop (a + s)).take s).length = s := by rw [List.length_take, List.length_drop]; have := HL.out; omega
              have HPQ := hide (And.intro hP hQ)
              clear hP hQ
              go_wp2_with fail
              with_reducible refine (SY.out (blk (2 * s) (L.take a)) (stS ((L.drop a).take s)) (stS ((L.drop (a + s)).take s)) (blk s (L.drop (a + s + s))) a (a + s) b (by rw [blk_len, List.length_take]; have := HL.out; omega) (by rw [stS_len, HPQ.out.1]) (by rw [stS_len, HPQ.out.2]; omega) (by rw [stS_len, HPQ.out.1]; omega) (by rw [stS_len, HPQ.out.2]; omega) (by omega) (stS_srt _) (stS_srt _) _ _ _ rfl (by omega) rfl _ (by
                have q := HO.out
                rw [blk_cut' (by omega) (L := L.drop a) (by rw [List.length_drop]; have := HL.out; omega), List.drop_drop, blk_cut' (by omega) (L := L.drop (a + s)) (by rw [List.length_drop]; have := HL.out; omega), List.drop_drop] at q
                exact q)).mono ?_
              rintro e w6 ⟨rfl, ho6, hg6⟩
              have HO6 := hide (show w6.ownsRow lo 33 4 (.slice (some ⟨g, 0, none⟩) n c) n (rEvent (blk (2 * s) (L.take b) ++ blk s (L.drop b))) by
                rw [stS_app] at ho6
                rw [show b = a + (s + s) by omega, blk_more (s := 2 * s) (by omega) HK.out (by have := HL.out; omega) (t := s + s) (by omega), List.append_assoc, show (L.drop a).take (s + s) = (L.drop a).take s ++ (L.drop (a + s)).take s by rw [List.take_add, List.drop_drop], ← Nat.add_assoc]
                exact ho6)
              have HG6 := hide (gb_trans HG.out hg6)
              have HK6 : Hid (b = 2 * s * (k + 1)) := hide (by have := HK.out; rw [Nat.mul_succ]; omega)
              clear ho6 hg6 HK HO HG HPQ
              go_wp2_with fail
              go_roundw
              case rel => exact ⟨b, b + 2 * s, k + 1, by omega, by omega, by omega, rfl, by first | go_num | exact vint (by omega), HK6, HO6, HG6⟩
              case measure => first | (simp [intOf]; done) | (simp [intOf]; omega)
            · have z3 : ¬ (b : Int) ≤ (n : Int) := by omega
              by_cases hmn : a + s < n
              · have z4 : (a : Int) + (s : Int) < (n : Int) := by omega
                have hP : ((L.drop a).take s).length = s := by rw [List.length_take, List.length_drop]; have := HL.out; omega
                have HP := hide hP
                clear hP
                go_wp2_with fail
                with_reducible refine (SY.out (blk (2 * s) (L.take a)) (stS ((L.drop a).take s)) (stS (L.drop (a + s))) [] a (a + s) n (by rw [blk_len, List.length_take]; have := HL.out; omega) (by rw [stS_len, HP.out]) (by rw [stS_len, List.length_drop]; have := HL.out; omega) (by rw [stS_len, HP.out]; omega) (by rw [stS_len, List.length_drop]; have := HL.out; omega) (by omega) (stS_srt _) (stS_srt _) _ _ _ rfl (by omega) rfl _ (by
                  have q := HO.out
                  rw [blk_cut' (by omega) (L := L.drop a) (by rw [List.length_drop]; have := HL.out; omega), List.drop_drop, blk_one (L := L.drop (a + s)) (by rw [List.length_drop]; have := HL.out; omega)] at q
                  rw [List.append_nil]
                  exact q)).mono ?_
                rintro e w6 ⟨rfl, ho6, hg6⟩
                have HO6 := hide (show w6.ownsRow lo 33 4 (.slice (some ⟨g, 0, none⟩) n c) n (rEvent (blk (s * 2) L)) by
                  rw [stS_app, show (L.drop a).take s ++ L.drop (a + s) = L.drop a by rw [← List.drop_drop, List.take_append_drop], List.append_nil] at ho6
                  have q := blk_more (s := 2 * s) (by omega) HK.out (L := L) (by have := HL.out; omega) (t := n - a) (by omega)
                  rw [show a + (n - a) = L.length by have := HL.out; omega, List.take_length, show (L.drop a).take (n - a) = L.drop a from List.take_of_length_le (by rw [List.length_drop]; have := HL.out; omega)] at q
                  rw [show s * 2 = 2 * s by omega, q]
                  exact ho6)
                have HG6 := hide (gb_trans HG.out hg6)
                clear ho6 hg6 HK HO HG HP
                go_wp2_with fail
                go_roundw
                case rel => exact ⟨s * 2, by omega, by omega, by first | go_num | exact vint (by omega), HO6, HG6⟩
                case measure => first | (simp [intOf]; done) | (simp [intOf]; omega)
              · have z4 : ¬ (a : Int) + (s : Int) < (n : Int) := by omega
                have HO6 := hide (show wr.ownsRow lo 33 4 (.slice (some ⟨g, 0, none⟩) n c) n (rEvent (blk (s * 2) L)) by
                  have ho6 := HO.out
                  rw [blk_one (L := L.drop a) (by rw [List.length_drop]; have := HL.out; omega)] at ho6
                  have q := blk_more (s := 2 * s) (by omega) HK.out (L := L) (by have := HL.out; omega) (t := n - a) (by omega)
                  rw [show a + (n - a) = L.length by have := HL.out; omega, List.take_length, show (L.drop a).take (n - a) = L.drop a from List.take_of_length_le (by rw [List.length_drop]; have := HL.out; omega)] at q
                  rw [show s * 2 = 2 * s by omega, q]
                  exact ho6)
                clear HK HO
                go_wp2_with fail
                go_roundw
                case rel => exact ⟨s * 2, by omega, by omega, by first | go_num | exact vint (by omega), HO6, HG⟩
                case measure => first | (simp [intOf]; done) | (simp [intOf]; omega)
        · have z2 : ¬ (s : Int) < (n : Int) := by omega
          have HS := hide (show wr.ownsRow lo 33 4 (.slice (some ⟨g, 0, none⟩) n c) n (rEvent (stS L)) by rw [← blk_one (s := s) (by have := HL.out; omega)]; exact HO.out)
          go_wp2_with fail
          go_end0
          exact ⟨rfl, HS.out, HG.out⟩

end Go.Proofs.Ytdmhoabidlagmaa
