/-
  THE SPEEDS IN A WINDOW (the program's), their sum and the greatest; MeanWind and GustOf. No condition but those that each theorem names.
-/
import Derived.Test.YtlinjlpcofhdhaaWind
namespace Go.Proofs.Ytlinjlpcofhdhaa
open Go.RowKit
set_option linter.unusedVariables false

theorem cell_one_at (w : World) (v : Value) (t : TypeId) (g : Nat) (hg : g = w.heap.size) : ∀ (j : Nat) (u : Value), [v][j]? = some u → (w.alloc (.cells #[v] t)).cell? ((⟨g, 0, none⟩ : Addr).add j) = some u := by subst hg; exact cell_one_new _ _ _
theorem wCode_2 {l : List (Int × Int)} {s d : Int} (h : validR l = true) (h0 : ¬ wCode l s d = 0) : wCode l s d = 2 ∧ (inR s 0 1000000 && inR d 1 3600) = false := by
  unfold wCode at h0 ⊢
  rw [if_pos h] at h0 ⊢
  cases e : (inR s 0 1000000 && inR d 1 3600) with
  | false => exact ⟨rfl, rfl⟩
  | true => rw [e] at h0; exact absurd rfl h0
theorem spCode_bad {l : List (Int × Int)} {s d x : Int} (h : wCode l s d = x) (hx : x ≠ 0) : spCode l s d = x ∧ spRes l s d = [] := by
  unfold spCode spRes
  rw [h, if_neg hx, if_neg hx]
  exact ⟨rfl, rfl⟩
theorem spCode_none {l : List (Int × Int)} {s d : Int} (h : wCode l s d = 0) (he : winl l s d l.length = []) : spCode l s d = 3 ∧ spRes l s d = [] := by
  unfold spCode spRes
  rw [if_pos h, if_pos h, if_pos he]
  exact ⟨rfl, he⟩
theorem spCode_some {l : List (Int × Int)} {s d : Int} (h : wCode l s d = 0) (he : winl l s d l.length ≠ []) : spCode l s d = 0 ∧ spRes l s d = winl l s d l.length := by
  unfold spCode spRes
  rw [if_pos h, if_pos h, if_neg he]
  exact ⟨rfl, rfl⟩

set_option maxHeartbeats 2000000 in
theorem speedsIn_any (A : Option Addr) (n c lo hi : Nat) (l : List (Int × Int)) (s d : Int) (hn : n ≤ 1048576) (w : World) (hl : l.length = n) (h : Rd w lo hi 2 A n (rReading l)) (hhi : hi ≤ w.heap.size) :
    Calls Try.prog 67 #[.slice A n c, .int .i64 s, .int .i64 d] w fun e w' => ∃ v, e = .returned (.tuple #[v, .int .i64 (spCode l s d)]) ∧ Own w' w.heap.size w'.heap.size 2 1 v (spRes l s d).length (rInt64 (spRes l s d)) ∧ Below w.heap.size w w' := by
  have H := hide h
  have HL := hide hl
  clear h hl
  cases e1 : validR l with
  | false =>
    obtain ⟨E1, E2⟩ := spCode_bad (l := l) (s := s) (d := d) (x := 1) (by unfold wCode; rw [e1]; rfl) (by omega)
    rw [E1, E2]
    clear E1 E2
    go_enter Try.func67, Try.ntmps67
    go_wp2_with (first | (go_at_call 19; refine (ValidReadings_any A n c lo hi l hn _ HL.out H.out hhi).mono ?_; rintro e w1 ⟨rfl, hb1⟩; rw [e1]) | (go_at_call 53; refine (within_any _ _ _ _).mono ?_; rintro e w' ⟨rfl, hw⟩; obtain rfl := hw.symm))
    go_ret2
    exact ⟨_, rfl, Own.of_owns (World.ownsRow_nil _ _ _ _), hb1⟩
  | true =>
    by_cases h0 : wCode l s d = 0
    · obtain ⟨_, ⟨s0, s1⟩, d0, d1⟩ := wCode_0 h0
      have e2 := inR_mk s0 s1
      have e3 := inR_mk d0 d1
      have HP := hide (And.intro (spCode_none h0) (spCode_some h0))
      clear h0
      obtain ⟨i0, hi0, hz0, hz1, hz2⟩ := info_parts infoInt64
      have I := hide (And.intro hi0 (And.intro hz0 (And.intro hz1 hz2)))
      clear hi0 hz0 hz1 hz2
      generalize hC : spCode l s d = C
      generalize hR : spRes l s d = R
      have HC := hide hC
      have HR := hide hR
      clear hC hR
      go_enter Try.func67, Try.ntmps67
      go_wp2_with (first | (go_at_call 19; refine (ValidReadings_any A n c lo hi l hn _ HL.out H.out hhi).mono ?_; rintro e w1 ⟨rfl, hb1⟩; rw [e1]) | (go_at_call 53; refine (within_any _ _ _ _).mono ?_; rintro e w' ⟨rfl, hw⟩; obtain rfl := hw.symm))
      have hr1 := H.out.below hb1 hhi
      have H2 := hide hr1
      have hs1 := hb1.size
      clear hr1
      go_loopw [8, 26] (fun v i wr => ∃ k : Nat, k ≤ n ∧ i = .int .i64 k ∧ wr.ownsRow w.heap.size 2 1 v (winl l s d k).length (rInt64 (winl l s d k)) ∧ Below w.heap.size w wr) (fun _ i _ => n - (intOf i).toNat)
      case atStart => exact ⟨0, by omega, rfl, World.ownsRow_nil _ _ _ _, hb1⟩
      case round =>
        obtain ⟨k, hk, rfl, ho, hbr⟩ := hrel
        by_cases hlt : k < n
        · have hlen : k < l.length := by rw [HL.out]; exact hlt
          obtain ⟨t0, t1⟩ := rReading_at l k hlen
          obtain ⟨b, off, rfl, hb1', hb2', hc⟩ := H.out.2 (by omega)
          have c0 : wr.cell? ⟨b, off + k * 2, none⟩ = some (.int .i64 l[k].1) := (hbr.cell (p := ⟨b, _, none⟩) (by show b < _; omega)).trans (hc _ _ t0)
          have c1 : wr.cell? ⟨b, off + k * 2 + 1, none⟩ = some (.int .i64 l[k].2) := (hbr.cell (p := ⟨b, _, none⟩) (by show b < _; omega)).trans (hc _ _ t1)
          have hbl : b < wr.heap.size := by have := hbr.size; omega
          have hsz := hbr.size
          have Ho := hide ho
          cases e4 : inR l[k].1 (s - d + 1) s with
          | true =>
            have E := hide (winl_yes hlen e4)
            have hle := winl_le l s d k
            generalize l[k].1 = p at *
            generalize l[k].2 = q at *
            clear t0 t1 hc ho e2 e3
            go_wp2_with (first | (go_at_call 53; refine (within_any _ _ _ _).mono ?_; rintro e w' ⟨rfl, hw⟩; obtain rfl := hw.symm) | (at_builtin; refine wpList_append_own _ rfl (.tmp 38) (.tmp 41) 36 rfl w.heap.size 2 i0 (.int .i64 0) 1 8 Try.underlying36 I.out.1 I.out.2.1 I.out.2.2.1 I.out.2.2.2 rfl (by decide) _ _ _ rfl ((Ho.out.alloc _).alloc _) ⟨wr.heap.size + 1, 0, none⟩ 1 1 [.int .i64 q] rfl rfl (cell_one_at _ _ _ _ (by simp)) (by simp [Value.oneCell']) (by unfold maxLen; omega) (by omega) (by simp; omega) ?_; intro v' w2 hown' hgrow _))
            go_roundw
            case rel => exact ⟨k + 1, by omega, by go_num, by rw [E.out, rInt64_snoc, List.length_append]; exact hown', ((hbr.alloc hsz _).alloc (by simp; omega) _).grown hgrow (by simp; omega) (fun g hg => (Ho.out.lt g hg).1)⟩
            case measure => simp [intOf]; omega
          | false =>
            have E := hide (winl_no hlen e4)
            generalize l[k].1 = p at *
            generalize l[k].2 = q at *
            clear t0 t1 hc ho e2 e3
            go_wp2_with (first | (go_at_call 53; refine (within_any _ _ _ _).mono ?_; rintro e w' ⟨rfl, hw⟩; obtain rfl := hw.symm))
            go_roundw
            case rel => exact ⟨k + 1, by omega, by go_num, by rw [E.out]; exact Ho.out.alloc _, hbr.alloc hsz _⟩
            case measure => simp [intOf]; omega
        · obtain rfl : k = n := by omega
          have HPn := HP.out
          rw [HL.out] at HPn
          obtain ⟨A', c', rfl, _, _, _⟩ := (Own.of_owns ho).rd
          have hon := Own.of_owns ho
          have Hon := hide hon
          clear hon ho
          by_cases hE : winl l s d k = []
          · obtain ⟨a1, a2⟩ := HPn.1 hE
            have hl0 : (winl l s d k).length = 0 := by rw [hE]; rfl
            rw [HC.out] at a1
            rw [HR.out] at a2
            subst a1; subst a2
            have hz : (((winl l s d k).length : Int) == 0) = true := by rw [hl0]; rfl
            clear hE
            go_wp2
            go_ret2
            exact ⟨_, rfl, Own.of_owns (World.ownsRow_nil _ _ _ _), hbr⟩
          · obtain ⟨a1, a2⟩ := HPn.2 hE
            have hl0 : 0 < (winl l s d k).length := List.length_pos_iff.2 hE
            rw [HC.out] at a1
            rw [HR.out] at a2
            subst a1; subst a2
            have hz : (((winl l s d k).length : Int) == 0) = false := by simp; omega
            clear hE
            go_wp2
            go_ret2
            exact ⟨_, rfl, Hon.out, hbr⟩
    · obtain ⟨hw2, hbad⟩ := wCode_2 e1 h0
      obtain ⟨E1, E2⟩ := spCode_bad hw2 (by omega)
      rw [E1, E2]
      clear E1 E2 hw2 h0
      cases e2 : inR s 0 1000000
      all_goals cases e3 : inR d 1 3600
      all_goals first
        | (exfalso; rw [e2, e3] at hbad; simp at hbad; done)
        | (clear hbad
           go_enter Try.func67, Try.ntmps67
           go_wp2_with (first | (go_at_call 19; refine (ValidReadings_any A n c lo hi l hn _ HL.out H.out hhi).mono ?_; rintro e w1 ⟨rfl, hb1⟩; rw [e1]) | (go_at_call 53; refine (within_any _ _ _ _).mono ?_; rintro e w' ⟨rfl, hw⟩; obtain rfl := hw.symm))
           go_ret2
           exact ⟨_, rfl, Own.of_owns (World.ownsRow_nil _ _ _ _), hb1⟩)

theorem rInt64_get (l : List Int) (k : Nat) (h : k < l.length) : (rInt64 l)[k]? = some (.int .i64 l[k]) := by have := rInt64_at l k h; rwa [Nat.mul_one] at this
theorem sum_bd {l : List Int} (h : ∀ x ∈ l, 0 ≤ x ∧ x ≤ 600) (k : Nat) : 0 ≤ (l.take k).sum ∧ (l.take k).sum ≤ 600 * (l.length : Int) := by
  induction l generalizing k with
  | nil => simp
  | cons a l ih =>
    cases k with
    | zero => simp; omega
    | succ k =>
      have h1 := ih (fun x hx => h x (by simp [hx])) k
      have h2 := h a (by simp)
      simp only [List.take_succ_cons, List.sum_cons, List.length_cons]
      omega
theorem sum_succ {l : List Int} {k : Nat} (hk : k < l.length) : (l.take (k + 1)).sum = (l.take k).sum + l[k] := by
  rw [List.take_succ_eq_append_getElem hk, List.sum_append]; simp
/-- The greatest of 0 and the numbers of a list. -/
def mx (l : List Int) : Int := l.foldl (fun a b => if a < b then b else a) 0
theorem mx_succ {l : List Int} {k : Nat} (hk : k < l.length) : mx (l.take (k + 1)) = if mx (l.take k) < l[k] then l[k] else mx (l.take k) := by
  unfold mx; rw [List.take_succ_eq_append_getElem hk, List.foldl_append]; rfl
theorem mx_bd {l : List Int} (h : ∀ x ∈ l, 0 ≤ x ∧ x ≤ 600) (k : Nat) : 0 ≤ mx (l.take k) ∧ mx (l.take k) ≤ 600 := by
  induction k with
  | zero => simp [mx]
  | succ k ih =>
    rcases Nat.lt_or_ge k l.length with hk | hk
    · rw [mx_succ hk]
      have := h l[k] (List.getElem_mem hk)
      split <;> omega
    · rw [List.take_of_length_le (by omega)]
      rw [List.take_of_length_le hk] at ih
      exact ih
theorem mx_one {l : List Int} (hk : 0 < l.length) (h : (0 : Int) ≤ l[0]) : mx (l.take 1) = l[0] := by
  rw [show (1 : Nat) = 0 + 1 from rfl, mx_succ hk]
  show (if (0 : Int) < l[0] then l[0] else 0) = l[0]
  by_cases h0 : (0 : Int) < l[0]
  · rw [if_pos h0]
  · rw [if_neg h0]; omega

set_option maxHeartbeats 1000000 in
theorem sumOf_any (A : Option Addr) (n c lo hi : Nat) (l : List Int) (hn : n ≤ 1000000) (hl : l.length = n) (hv : ∀ x ∈ l, 0 ≤ x ∧ x ≤ 600) (w : World) (h : Rd w lo hi 1 A n (rInt64 l)) :
    Calls Try.prog 69 #[.slice A n c] w fun e w' => e = .returned (.int .i64 l.sum) ∧ w = w' := by
  have H1 := hide hl
  have H2 := hide h
  have H3 := hide hv
  clear hl h hv
  go_enter Try.func69, Try.ntmps69
  go_wp2
  go_loop [3, 8] (fun s i => ∃ k : Nat, k ≤ n ∧ i = .int .i64 k ∧ s = .int .i64 (l.take k).sum) (fun _ i => n - (intOf i).toNat)
  case atStart => exact ⟨0, by omega, rfl, by simp⟩
  case round =>
    obtain ⟨k, hk, rfl, rfl⟩ := hrel
    by_cases hlt : k < n
    · have hlen : k < l.length := by rw [H1.out]; exact hlt
      obtain ⟨b, off, rfl, hb1, hb2, hc⟩ := H2.out.2 (by omega)
      have c0 := hc k _ (rInt64_get l k hlen)
      have hb := sum_bd H3.out k
      have hx := H3.out l[k] (List.getElem_mem hlen)
      have E := hide (sum_succ hlen)
      have hll : (l.length : Int) = n := by rw [H1.out]
      rw [hll] at hb
      clear hll
      generalize l[k] = x at *
      generalize (l.take k).sum = s at *
      obtain ⟨hs1, hs2⟩ := hb
      obtain ⟨hx1, hx2⟩ := hx
      clear hc
      go_wp2
      go_round
      case rel => exact ⟨k + 1, by omega, by go_num, by rw [E.out]⟩
      case measure => simp [intOf]; omega
    · obtain rfl : k = n := by omega
      go_wp2
      go_ret
      exact ⟨ret_int (by rw [List.take_of_length_le (by rw [H1.out]; exact Nat.le_refl _)]), rfl⟩

set_option maxHeartbeats 1000000 in
theorem slMax_any (A : Option Addr) (n c lo hi : Nat) (l : List Int) (hn0 : 0 < n) (hn : n ≤ 1000000) (hl : l.length = n) (hv : ∀ x ∈ l, 0 ≤ x ∧ x ≤ 600) (w : World) (h : Rd w lo hi 1 A n (rInt64 l)) :
    Calls Try.prog 76 #[.slice A n c] w fun e w' => e = .returned (.int .i64 (mx l)) ∧ w = w' := by
  have H1 := hide hl
  have H2 := hide h
  have H3 := hide hv
  obtain ⟨b, off, rfl, hb1, hb2, hc⟩ := h.2 (by omega)
  have hl0 : 0 < l.length := by omega
  have c00 := hc 0 _ (rInt64_get l 0 hl0)
  rw [Nat.add_zero] at c00
  have M := hide (mx_one hl0 (hv _ (List.getElem_mem hl0)).1)
  have HC := hide hc
  generalize l[0] = x0 at *
  clear hl h hv hc hl0
  go_enter Try.func76, Try.ntmps76
  go_wp2
  go_loop [3, 4] (fun s i => ∃ k : Nat, 1 ≤ k ∧ k ≤ n ∧ i = .int .i64 k ∧ s = .int .i64 (mx (l.take k))) (fun _ i => n - (intOf i).toNat)
  case atStart => exact ⟨1, by omega, by omega, rfl, by rw [M.out]⟩
  case round =>
    obtain ⟨k, hk1, hk, rfl, rfl⟩ := hrel
    by_cases hlt : k < n
    · have hlen : k < l.length := by rw [H1.out]; exact hlt
      have c0 := HC.out k _ (rInt64_get l k hlen)
      have E := hide (mx_succ hlen)
      generalize l[k] = x at *
      generalize mx (l.take k) = s at *
      by_cases hx : s < x
      all_goals
        go_wp2
        go_round
        case rel => exact ⟨k + 1, by omega, by omega, by go_num, by rw [E.out]; simp [hx]; try omega⟩
        case measure => simp [intOf]; omega
    · obtain rfl : k = n := by omega
      go_wp2
      go_ret
      exact ⟨ret_int (by rw [List.take_of_length_le (by rw [H1.out]; exact Nat.le_refl _)]), rfl⟩

end Go.Proofs.Ytlinjlpcofhdhaa
