/-
  THE SPEEDS IN A WINDOW: the program's and the reference's. No condition but those that each theorem names.
-/
import Derived.Test.YtlinjlpcofhdhaaReadOk
import Derived.Test.YtlinjlpcofhdhaaFamInt64
namespace Go.Proofs.Ytlinjlpcofhdhaa
open Go.RowKit
set_option linter.unusedVariables false

theorem rInt64_snoc (l : List Int) (x : Int) : rInt64 (l ++ [x]) = rInt64 l ++ [.int .i64 x] := by simp [rInt64, rows, cInt64]
theorem rInt64_nil : rInt64 [] = [] := rfl
/-- The speeds of those of the first k readings that lie in a window. -/
def winl (l : List (Int × Int)) (s d : Int) (k : Nat) : List Int := ((l.take k).filter fun r => inR r.1 (s - d + 1) s).map (·.2)
theorem winl_yes {l : List (Int × Int)} {s d : Int} {k : Nat} (hk : k < l.length) (h : inR l[k].1 (s - d + 1) s = true) : winl l s d (k + 1) = winl l s d k ++ [l[k].2] := by
  have e : ([l[k]].filter fun r => inR r.1 (s - d + 1) s) = [l[k]] := by rw [List.filter_cons, if_pos h]; rfl
  unfold winl
  rw [List.take_succ_eq_append_getElem hk, List.filter_append, List.map_append, e]
  rfl
theorem winl_no {l : List (Int × Int)} {s d : Int} {k : Nat} (hk : k < l.length) (h : inR l[k].1 (s - d + 1) s = false) : winl l s d (k + 1) = winl l s d k := by
  have e : ([l[k]].filter fun r => inR r.1 (s - d + 1) s) = [] := by rw [List.filter_cons, if_neg (by rw [h]; simp)]; rfl
  unfold winl
  rw [List.take_succ_eq_append_getElem hk, List.filter_append, List.map_append, e]
  simp
theorem winl_le (l : List (Int × Int)) (s d : Int) (k : Nat) : (winl l s d k).length ≤ k := by
  unfold winl; rw [List.length_map]; exact Nat.le_trans (List.length_filter_le _ _) (by rw [List.length_take]; omega)
theorem validR_get {l : List (Int × Int)} (h : validR l = true) : l.length ≤ 200 ∧ ∀ p ∈ l, (0 ≤ p.1 ∧ p.1 ≤ 1000000) ∧ (0 ≤ p.2 ∧ p.2 ≤ 600) := by
  unfold validR at h
  rw [Bool.and_eq_true, decide_eq_true_eq, List.all_eq_true] at h
  refine ⟨h.2, fun p hp => ?_⟩
  obtain ⟨i, hi, rfl⟩ := List.mem_iff_getElem.1 hp
  have := h.1 i (by simpa using hi)
  simp only [okR, List.getD, List.getElem?_eq_getElem hi, Option.getD_some, Bool.and_eq_true] at this
  exact ⟨inR_true this.1.1, inR_true this.1.2⟩
theorem winl_bd {l : List (Int × Int)} {s d : Int} {k : Nat} (h : validR l = true) : ∀ x ∈ winl l s d k, 0 ≤ x ∧ x ≤ 600 := by
  intro x hx
  unfold winl at hx
  obtain ⟨p, hp, rfl⟩ := List.mem_map.1 hx
  exact ((validR_get h).2 p (List.mem_of_mem_take (List.mem_filter.1 hp).1)).2
/-- The code of readings, a second and a window. -/
def wCode (l : List (Int × Int)) (s d : Int) : Int := if validR l then (if inR s 0 1000000 && inR d 1 3600 then 0 else 2) else 1
def spCode (l : List (Int × Int)) (s d : Int) : Int := if wCode l s d = 0 then (if winl l s d l.length = [] then 3 else 0) else wCode l s d
def spRes (l : List (Int × Int)) (s d : Int) : List Int := if wCode l s d = 0 then winl l s d l.length else []
theorem wCode_0 {l : List (Int × Int)} {s d : Int} (h : wCode l s d = 0) : validR l = true ∧ (0 ≤ s ∧ s ≤ 1000000) ∧ (1 ≤ d ∧ d ≤ 3600) := by
  unfold wCode at h
  cases e1 : validR l with
  | false => rw [e1] at h; simp at h
  | true =>
    cases e2 : inR s 0 1000000 with
    | false => rw [e1, e2] at h; simp at h
    | true =>
      cases e3 : inR d 1 3600 with
      | false => rw [e1, e2, e3] at h; simp at h
      | true => exact ⟨rfl, inR_true e2, inR_true e3⟩

set_option maxHeartbeats 1000000 in
theorem l21Code_any (A : Option Addr) (n c lo hi : Nat) (l : List (Int × Int)) (s d : Int) (hn : n ≤ 1048576) (w : World) (hl : l.length = n) (h : Rd w lo hi 2 A n (rReading l)) (hhi : hi ≤ w.heap.size) :
    Calls Try.prog 64 #[.slice A n c, .int .i64 s, .int .i64 d] w fun e w' => e = .returned (.int .i64 (wCode l s d)) ∧ Below w.heap.size w w' := by
  unfold wCode
  have H := hide h
  have HL := hide hl
  clear h hl
  cases e1 : validR l with
  | false =>
    go_enter Try.func64, Try.ntmps64
    go_wp2_with (go_at_call 55; refine (l21Ok_any A n c lo hi l hn _ HL.out H.out hhi).mono ?_; rintro e w1 ⟨rfl, hb1⟩; rw [e1])
    go_ret
    exact ⟨rfl, hb1⟩
  | true =>
    cases e2 : inR s 0 1000000
    all_goals cases e3 : inR d 1 3600
    all_goals
      go_enter Try.func64, Try.ntmps64
      go_wp2_with (first | (go_at_call 55; refine (l21Ok_any A n c lo hi l hn _ HL.out H.out hhi).mono ?_; rintro e w1 ⟨rfl, hb1⟩; rw [e1]) | (go_at_call 60; refine (l00In_any _ _ _ _).mono ?_; rintro e w' ⟨rfl, hw⟩; obtain rfl := hw.symm))
      go_ret
      exact ⟨rfl, hb1⟩

set_option maxHeartbeats 1000000 in
theorem l21Window_any (A : Option Addr) (n c lo hi : Nat) (l : List (Int × Int)) (s d : Int) (hn : n ≤ 1048576) (hs0 : 0 ≤ s) (hs1 : s ≤ 1000000) (hd0 : 1 ≤ d) (hd1 : d ≤ 3600) (w : World) (hl : l.length = n) (h : Rd w lo hi 2 A n (rReading l)) (hhi : hi ≤ w.heap.size) :
    Calls Try.prog 65 #[.slice A n c, .int .i64 s, .int .i64 d] w fun e w' => ∃ v, e = .returned v ∧ Own w' w.heap.size w'.heap.size 2 1 v (winl l s d n).length (rInt64 (winl l s d n)) ∧ Below w.heap.size w w' := by
  obtain ⟨i0, hi0, hz0, hz1, hz2⟩ := info_parts infoInt64
  have I := hide (And.intro hi0 (And.intro hz0 (And.intro hz1 hz2)))
  have H1 := hide hl
  have H2 := hide h
  clear hi0 hz0 hz1 hz2 hl h
  go_enter Try.func65, Try.ntmps65
  go_wp2
  go_loopw [7, 8] (fun v i wr => ∃ k : Nat, k ≤ n ∧ i = .int .i64 k ∧ wr.ownsRow w.heap.size 2 1 v (winl l s d k).length (rInt64 (winl l s d k)) ∧ Below w.heap.size w wr) (fun _ i _ => n - (intOf i).toNat)
  case atStart => exact ⟨0, by omega, rfl, World.ownsRow_made _ _ 0 (Nat.le_refl _) (Nat.zero_le _) rfl, (Below.refl _ _).alloc (Nat.le_refl _) _⟩
  case round =>
    obtain ⟨k, hk, rfl, ho, hbr⟩ := hrel
    by_cases hlt : k < n
    · have hlen : k < l.length := by rw [H1.out]; exact hlt
      obtain ⟨t0, t1⟩ := rReading_at l k hlen
      obtain ⟨b, off, rfl, hb1', hb2', hc⟩ := H2.out.2 (by omega)
      have c0 : wr.cell? ⟨b, off + k * 2, none⟩ = some (.int .i64 l[k].1) := (hbr.cell (p := ⟨b, _, none⟩) (by show b < _; omega)).trans (hc _ _ t0)
      have c1 : wr.cell? ⟨b, off + k * 2 + 1, none⟩ = some (.int .i64 l[k].2) := (hbr.cell (p := ⟨b, _, none⟩) (by show b < _; omega)).trans (hc _ _ t1)
      have hbl : b < wr.heap.size := by have := hbr.size; omega
      have hsz := hbr.size
      have Ho := hide ho
      cases e1 : inR l[k].1 (s - d + 1) s with
      | true =>
        have E := hide (winl_yes hlen e1)
        have hle := winl_le l s d k
        generalize l[k].1 = p at *
        generalize l[k].2 = q at *
        clear t0 t1 hc ho
        go_wp2_with (first | (go_at_call 60; refine (l00In_any _ _ _ _).mono ?_; rintro e w' ⟨rfl, hw⟩; obtain rfl := hw.symm; rw [e1]) | (at_builtin; refine wpList_append_own _ rfl (.tmp 27) (.tmp 33) 36 rfl w.heap.size 2 i0 (.int .i64 0) 1 8 Try.underlying36 I.out.1 I.out.2.1 I.out.2.2.1 I.out.2.2.2 rfl (by decide) _ _ _ rfl (Ho.out.alloc _) ⟨wr.heap.size, 0, none⟩ 1 1 [.int .i64 q] rfl rfl (cell_one_new _ _ _) (by simp [Value.oneCell']) (by unfold maxLen; omega) (by omega) (by simp; omega) ?_; intro v' w1 hown' hgrow _))
        go_roundw
        case rel => exact ⟨k + 1, by omega, by go_num, by rw [E.out, rInt64_snoc, List.length_append]; exact hown', (hbr.alloc hsz _).grown hgrow (by simp; omega) (fun g hg => (Ho.out.lt g hg).1)⟩
        case measure => simp [intOf]; omega
      | false =>
        have E := hide (winl_no hlen e1)
        generalize l[k].1 = p at *
        generalize l[k].2 = q at *
        clear t0 t1 hc ho
        go_wp2_with (first | (go_at_call 60; refine (l00In_any _ _ _ _).mono ?_; rintro e w' ⟨rfl, hw⟩; obtain rfl := hw.symm; rw [e1]))
        go_roundw
        case rel => exact ⟨k + 1, by omega, by go_num, by rw [E.out]; exact Ho.out, hbr⟩
        case measure => simp [intOf]; omega
    · obtain rfl : k = n := by omega
      go_wp2
      go_ret
      exact ⟨_, rfl, Own.of_owns ho, hbr⟩

end Go.Proofs.Ytlinjlpcofhdhaa
