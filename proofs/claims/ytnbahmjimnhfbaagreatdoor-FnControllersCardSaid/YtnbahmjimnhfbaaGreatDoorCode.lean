/-
  CODES of a table, rules and controllers: the reference's and the program's. No condition but those that each theorem names.
-/
import Derived.Test.YtnbahmjimnhfbaaGreatDoorStep
import Derived.Test.YtnbahmjimnhfbaaGreatDoorBox
namespace Go.Proofs.YtnbahmjimnhfbaaGreatDoor
open Go.RowKit
set_option linter.unusedVariables false

abbrev Ctl := Int × Int × Int × Int × Int
def cCtl (p : Ctl) : List Value := [.int .i64 p.1, .int .i64 p.2.1, .int .i64 p.2.2.1, .int .i64 p.2.2.2.1, .int .i64 p.2.2.2.2]
def rCtl (l : List Ctl) : List Value := rows cCtl l
theorem rCtl_at (l : List Ctl) (k : Nat) (h : k < l.length) : ∀ i v, (cCtl l[k])[i]? = some v → (rCtl l)[k * 5 + i]? = some v := by
  intro i v hv
  have hi : i < 5 := (List.getElem?_eq_some_iff.1 hv).1
  rw [← hv]
  exact rows_at (f := cCtl) (m := 5) (fun _ => rfl) l k h i hi
def ctlOkP (p : Ctl) : Bool := ctlOk p.1 p.2.1 p.2.2.1 p.2.2.2.1 p.2.2.2.2
def ruOk (mg st : Int) : Bool := inR mg 0 3 && inR st 0 6
theorem ruOk_true {mg st : Int} (h : ruOk mg st = true) : (0 ≤ mg ∧ mg ≤ 3) ∧ (0 ≤ st ∧ st ≤ 6) := by
  unfold ruOk at h; rw [Bool.and_eq_true] at h; exact ⟨inR_true h.1, inR_true h.2⟩
def codeC (T : List (List Bool)) (mg st : Int) (l : List Ctl) : Int := if okT T = true then if ruOk mg st = true then if l.all ctlOkP = true then 0 else 1 else 1 else 8
theorem codeC_tab {T : List (List Bool)} {mg st : Int} {l : List Ctl} (h : okT T = false) : codeC T mg st l = 8 := by simp [codeC, h]
theorem codeC_ru {T : List (List Bool)} {mg st : Int} {l : List Ctl} (h : okT T = true) (h2 : ruOk mg st = false) : codeC T mg st l = 1 := by simp [codeC, h, h2]
theorem codeC_bad {T : List (List Bool)} {mg st : Int} {l : List Ctl} (h : okT T = true) (h2 : ruOk mg st = true) (k : Nat) (hk : k < l.length) (h3 : ctlOkP l[k] = false) : codeC T mg st l = 1 := by
  have : l.all ctlOkP = false := by
    rw [List.all_eq_false]
    exact ⟨l[k], List.getElem_mem _, by simp [h3]⟩
  simp [codeC, h, h2, this]
theorem codeC_ok {T : List (List Bool)} {mg st : Int} {l : List Ctl} (h : okT T = true) (h2 : ruOk mg st = true) (h3 : ∀ k (hk : k < l.length), ctlOkP l[k] = true) : codeC T mg st l = 0 := by
  have : l.all ctlOkP = true := by
    rw [List.all_eq_true]
    intro p hp
    obtain ⟨i, hi, rfl⟩ := List.mem_iff_getElem.1 hp
    exact h3 i hi
  simp [codeC, h, h2, this]

set_option maxHeartbeats 400000 in
theorem l18Rules_any (mg st : Int) (w : World) : Calls Tryz.prog 46 #[.agg #[.int .i64 mg, .int .i64 st]] w fun e w' => e = .returned (.bool (ruOk mg st)) ∧ Below w.heap.size w w' := by
  unfold ruOk
  cases e0 : inR mg 0 3
  all_goals
    go_enter Tryz.func46, Tryz.ntmps46
    go_wp2_with (go_at_call 40; refine (l00In_any _ _ _ _).mono ?_; rintro e w' ⟨rfl, hw⟩; obtain rfl := hw.symm)
    go_ret
    exact ⟨ret_bool (by simp), (Below.refl _ _).alloc (Nat.le_refl _) _⟩

set_option maxHeartbeats 400000 in
theorem ValidRules_any (mg st : Int) (w : World) : Calls Tryz.prog 22 #[.agg #[.int .i64 mg, .int .i64 st]] w fun e w' => e = .returned (.bool (ruOk mg st)) ∧ Below w.heap.size w w' := by
  unfold ruOk
  cases e0 : inR mg 0 3
  all_goals
    go_enter Tryz.func22, Tryz.ntmps22
    go_wp2_with (go_at_call 45; refine (within_any _ _ _ _).mono ?_; rintro e w' ⟨rfl, hw⟩; obtain rfl := hw.symm)
    go_ret
    exact ⟨ret_bool (by simp), (Below.refl _ _).alloc (Nat.le_refl _) _⟩

set_option maxRecDepth 100000 in
set_option maxHeartbeats 4000000 in
theorem l18Code_any (A : Option Addr) (n c lo hi : Nat) (T : List (List Bool)) (hm : n ≤ maxLen) (mg st : Int) (A' : Option Addr) (m c' lo' hi' : Nat) (L : List Ctl) (hL : L.length = m) (hm' : m ≤ 1048576) (w : World) (h : RdSS w lo hi A n (rrBool T)) (hhi : hi ≤ w.heap.size) (h' : Rd w lo' hi' 5 A' m (rCtl L)) (hhi' : hi' ≤ w.heap.size) :
    Calls Tryz.prog 30 #[.slice A n c, .agg #[.int .i64 mg, .int .i64 st], .slice A' m c'] w fun e w' => e = .returned (.int .i64 (codeC T mg st L)) ∧ Below w.heap.size w w' := by
  have HR := hide (fun o : Obj => h.below ((Below.refl w.heap.size w).alloc (Nat.le_refl _) o) hhi)
  have H2 := hide h'
  have H1 := hide hL
  clear h h' hL
  cases e0 : okT T
  · have HC := hide (codeC_tab (mg := mg) (st := st) (l := L) e0)
    go_enter Tryz.func30, Tryz.ntmps30
    go_wp2_with (go_at_call 53; refine (l15Ok_any A n c lo hi T hm _ (HR.out _)).mono ?_; rintro e w' ⟨rfl, hw⟩; obtain rfl := hw.symm)
    go_ret
    exact ⟨ret_int HC.out.symm, (Below.refl _ _).alloc (Nat.le_refl _) _⟩
  cases e1 : ruOk mg st
  · have HC := hide (codeC_ru (l := L) e0 e1)
    go_enter Tryz.func30, Tryz.ntmps30
    go_wp2_with (go_at_call 53; refine (l15Ok_any A n c lo hi T hm _ (HR.out _)).mono ?_; rintro e w' ⟨rfl, hw⟩; obtain rfl := hw.symm)
    refine (l18Rules_any _ _ _).mono ?_
    rintro e w1 ⟨rfl, hb1⟩
    rw [e1]
    have hs1 := hb1.size
    simp at hs1
    have hB1 : Below w.heap.size w w1 := ((Below.refl _ _).alloc (Nat.le_refl _) _).trans (hb1.mono (by simp))
    clear hb1
    go_wp2_with fail
    go_ret
    exact ⟨ret_int HC.out.symm, hB1⟩
  · go_enter Tryz.func30, Tryz.ntmps30
    go_wp2_with (go_at_call 53; refine (l15Ok_any A n c lo hi T hm _ (HR.out _)).mono ?_; rintro e w' ⟨rfl, hw⟩; obtain rfl := hw.symm)
    refine (l18Rules_any _ _ _).mono ?_
    rintro e w1 ⟨rfl, hb1⟩
    rw [e1]
    have hs1 := hb1.size
    simp at hs1
    have hB1 : Below w.heap.size w w1 := ((Below.refl _ _).alloc (Nat.le_refl _) _).trans (hb1.mono (by simp))
    clear hb1
    go_wp2_with fail
    go_loopw [7] (fun i wr => ∃ k : Nat, k ≤ m ∧ i = .int .i64 k ∧ Hid (∀ j (hj : j < L.length), j < k → ctlOkP L[j] = true) ∧ Below w.heap.size w wr) (fun i _ => m - (intOf i).toNat)
    case atStart => exact ⟨0, by omega, rfl, hide (by intro j _ hj; omega), hB1⟩
    case round =>
      obtain ⟨k, hk, rfl, HP, hbr⟩ := hrel
      by_cases hlt : k < m
      · have hlen : k < L.length := by rw [H1.out]; exact hlt
        obtain ⟨b, off, rfl, hb1', hb2', hc⟩ := H2.out.2 (by omega)
        have hat := rCtl_at L k hlen
        obtain ⟨⟨x0, x1, x2, x3, x4⟩, hx⟩ : ∃ x, L[k] = x := ⟨_, rfl⟩
        rw [hx] at hat
        have d0 : wr.cell? ⟨b, off + k * 5, none⟩ = some (.int .i64 x0) := (hbr.cell (p := ⟨b, _, none⟩) (by show b < _; omega)).trans (hc _ _ (hat 0 _ rfl))
        have d1 : wr.cell? ⟨b, off + k * 5 + 1, none⟩ = some (.int .i64 x1) := (hbr.cell (p := ⟨b, _, none⟩) (by show b < _; omega)).trans (hc _ _ (hat 1 _ rfl))
        have d2 : wr.cell? ⟨b, off + k * 5 + 2, none⟩ = some (.int .i64 x2) := (hbr.cell (p := ⟨b, _, none⟩) (by show b < _; omega)).trans (hc _ _ (hat 2 _ rfl))
        have d3 : wr.cell? ⟨b, off + k * 5 + 3, none⟩ = some (.int .i64 x3) := (hbr.cell (p := ⟨b, _, none⟩) (by show b < _; omega)).trans (hc _ _ (hat 3 _ rfl))
        have d4 : wr.cell? ⟨b, off + k * 5 + 4, none⟩ = some (.int .i64 x4) := (hbr.cell (p := ⟨b, _, none⟩) (by show b < _; omega)).trans (hc _ _ (hat 4 _ rfl))
        have HX := hide hx
        clear hat hc hx
        have hsr := hbr.size
        cases ev : ctlOk x0 x1 x2 x3 x4
        · have HC := hide (codeC_bad e0 e1 k hlen (by rw [HX.out]; exact ev))
          go_wp2_with fail
          refine (l18Ok_any _ _ _ _ _ _).mono ?_
          rintro e w2 ⟨rfl, hb2⟩
          rw [ev]
          go_wp2_with fail
          go_ret
          exact ⟨ret_int HC.out.symm, hbr.trans (hb2.mono hsr)⟩
        · go_wp2_with fail
          refine (l18Ok_any _ _ _ _ _ _).mono ?_
          rintro e w2 ⟨rfl, hb2⟩
          rw [ev]
          go_wp2_with fail
          go_roundw
          case rel =>
            refine ⟨k + 1, by omega, by go_num, hide ?_, hbr.trans (hb2.mono hsr)⟩
            intro j hj hjk
            by_cases e : j = k
            · subst e; rw [HX.out]; exact ev
            · exact HP.out j hj (by omega)
          case measure => simp [intOf]; omega
      · obtain rfl : k = m := by omega
        have HC := hide (codeC_ok e0 e1 (fun j hj => HP.out j hj (by have := H1.out; omega)))
        go_wp2_with fail
        go_ret
        exact ⟨ret_int HC.out.symm, hbr⟩

set_option maxRecDepth 100000 in
set_option maxHeartbeats 4000000 in
theorem controlCode_any (A : Option Addr) (n c lo hi : Nat) (T : List (List Bool)) (hm : n ≤ maxLen) (mg st : Int) (A' : Option Addr) (m c' lo' hi' : Nat) (L : List Ctl) (hL : L.length = m) (hm' : m ≤ 1048576) (w : World) (h : RdSS w lo hi A n (rrBool T)) (hhi : hi ≤ w.heap.size) (h' : Rd w lo' hi' 5 A' m (rCtl L)) (hhi' : hi' ≤ w.heap.size) :
    Calls Tryz.prog 27 #[.slice A n c, .agg #[.int .i64 mg, .int .i64 st], .slice A' m c'] w fun e w' => e = .returned (.int .i64 (codeC T mg st L)) ∧ Below w.heap.size w w' := by
  have HR := hide (fun o : Obj => h.below ((Below.refl w.heap.size w).alloc (Nat.le_refl _) o) hhi)
  have H2 := hide h'
  have H1 := hide hL
  clear h h' hL
  cases e0 : okT T
  · have HC := hide (codeC_tab (mg := mg) (st := st) (l := L) e0)
    go_enter Tryz.func27, Tryz.ntmps27
    go_wp2_with (go_at_call 50; refine (implValidTable_any A n c lo hi T hm _ (HR.out _)).mono ?_; rintro e w' ⟨rfl, hw⟩; obtain rfl := hw.symm)
    go_ret
    exact ⟨ret_int HC.out.symm, (Below.refl _ _).alloc (Nat.le_refl _) _⟩
  cases e1 : ruOk mg st
  · have HC := hide (codeC_ru (l := L) e0 e1)
    go_enter Tryz.func27, Tryz.ntmps27
    go_wp2_with (go_at_call 50; refine (implValidTable_any A n c lo hi T hm _ (HR.out _)).mono ?_; rintro e w' ⟨rfl, hw⟩; obtain rfl := hw.symm)
    refine (ValidRules_any _ _ _).mono ?_
    rintro e w1 ⟨rfl, hb1⟩
    rw [e1]
    have hs1 := hb1.size
    simp at hs1
    have hB1 : Below w.heap.size w w1 := ((Below.refl _ _).alloc (Nat.le_refl _) _).trans (hb1.mono (by simp))
    clear hb1
    go_wp2_with fail
    go_ret
    exact ⟨ret_int HC.out.symm, hB1⟩
  · go_enter Tryz.func27, Tryz.ntmps27
    go_wp2_with (go_at_call 50; refine (implValidTable_any A n c lo hi T hm _ (HR.out _)).mono ?_; rintro e w' ⟨rfl, hw⟩; obtain rfl := hw.symm)
    refine (ValidRules_any _ _ _).mono ?_
    rintro e w1 ⟨rfl, hb1⟩
    rw [e1]
    have hs1 := hb1.size
    simp at hs1
    have hB1 : Below w.heap.size w w1 := ((Below.refl _ _).alloc (Nat.le_refl _) _).trans (hb1.mono (by simp))
    clear hb1
    go_wp2_with fail
    go_loopw [19] (fun i wr => ∃ k : Nat, k ≤ m ∧ i = .int .i64 k ∧ Hid (∀ j (hj : j < L.length), j < k → ctlOkP L[j] = true) ∧ Below w.heap.size w wr) (fun i _ => m - (intOf i).toNat)
    case atStart => exact ⟨0, by omega, rfl, hide (by intro j _ hj; omega), hB1⟩
    case round =>
      obtain ⟨k, hk, rfl, HP, hbr⟩ := hrel
      by_cases hlt : k < m
      · have hlen : k < L.length := by rw [H1.out]; exact hlt
        obtain ⟨b, off, rfl, hb1', hb2', hc⟩ := H2.out.2 (by omega)
        have hat := rCtl_at L k hlen
        obtain ⟨⟨x0, x1, x2, x3, x4⟩, hx⟩ : ∃ x, L[k] = x := ⟨_, rfl⟩
        rw [hx] at hat
        have d0 : wr.cell? ⟨b, off + k * 5, none⟩ = some (.int .i64 x0) := (hbr.cell (p := ⟨b, _, none⟩) (by show b < _; omega)).trans (hc _ _ (hat 0 _ rfl))
        have d1 : wr.cell? ⟨b, off + k * 5 + 1, none⟩ = some (.int .i64 x1) := (hbr.cell (p := ⟨b, _, none⟩) (by show b < _; omega)).trans (hc _ _ (hat 1 _ rfl))
        have d2 : wr.cell? ⟨b, off + k * 5 + 2, none⟩ = some (.int .i64 x2) := (hbr.cell (p := ⟨b, _, none⟩) (by show b < _; omega)).trans (hc _ _ (hat 2 _ rfl))
        have d3 : wr.cell? ⟨b, off + k * 5 + 3, none⟩ = some (.int .i64 x3) := (hbr.cell (p := ⟨b, _, none⟩) (by show b < _; omega)).trans (hc _ _ (hat 3 _ rfl))
        have d4 : wr.cell? ⟨b, off + k * 5 + 4, none⟩ = some (.int .i64 x4) := (hbr.cell (p := ⟨b, _, none⟩) (by show b < _; omega)).trans (hc _ _ (hat 4 _ rfl))
        have HX := hide hx
        clear hat hc hx
        have hsr := hbr.size
        cases ev : ctlOk x0 x1 x2 x3 x4
        · have HC := hide (codeC_bad e0 e1 k hlen (by rw [HX.out]; exact ev))
          go_wp2_with fail
          refine (implValidControl_any _ _ _ _ _ _).mono ?_
          rintro e w2 ⟨rfl, hb2⟩
          rw [ev]
          go_wp2_with fail
          go_ret
          exact ⟨ret_int HC.out.symm, (hbr.alloc hsr _).trans (hb2.mono (by simp; omega))⟩
        · go_wp2_with fail
          refine (implValidControl_any _ _ _ _ _ _).mono ?_
          rintro e w2 ⟨rfl, hb2⟩
          rw [ev]
          go_wp2_with fail
          go_roundw
          case rel =>
            refine ⟨k + 1, by omega, by go_num, hide ?_, (hbr.alloc hsr _).trans (hb2.mono (by simp; omega))⟩
            intro j hj hjk
            by_cases e : j = k
            · subst e; rw [HX.out]; exact ev
            · exact HP.out j hj (by omega)
          case measure => simp [intOf]; omega
      · obtain rfl : k = m := by omega
        have HC := hide (codeC_ok e0 e1 (fun j hj => HP.out j hj (by have := H1.out; omega)))
        go_wp2_with fail
        go_ret
        exact ⟨ret_int HC.out.symm, hbr⟩

end Go.Proofs.YtnbahmjimnhfbaaGreatDoor
