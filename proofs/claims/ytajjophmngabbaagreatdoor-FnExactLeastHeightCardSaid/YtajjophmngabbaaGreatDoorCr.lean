/-
  CRANES: a slice of structs that hold a text, numbers and a slice each: what it reads as; the laws' helpers on it. No condition but those that each theorem names.
-/
import Derived.Test.YtajjophmngabbaaGreatDoorFamChartStep
import Derived.Test.YtajjophmngabbaaGreatDoorNum
import Derived.Test.YtajjophmngabbaaGreatDoorBox
import Derived.Deep.DeepCutAuto
namespace Go.Proofs.YtajjophmngabbaaGreatDoor
open Go.RowKit
set_option linter.unusedVariables false

/-- A crane as data. -/
structure Crn where
  nm : ByteArray
  x : Int
  y : Int
  h : Int
  j : Int
  b : Int
  ch : List (Int × Int)
/-- The cells of a crane whose chart is the slice u. -/
def cCr (c : Crn) (u : Value) : List Value := [.string c.nm, .int .i64 c.x, .int .i64 c.y, .int .i64 c.h, .int .i64 c.j, .int .i64 c.b, u]
/-- No cell of the block of an address is frozen. -/
def FzA (w : World) (A : Option Addr) : Prop := ∀ a, A = some a → ∀ i, w.frozen? ⟨a.block, i, none⟩ = false
/-- A crane that lies at an address: its cells, its chart. -/
def CrAt (w : World) (lo hi : Nat) (own : Bool) (b o : Nat) (c : Crn) : Prop :=
  ∃ Ai ci, (∀ i v, (cCr c (.slice Ai c.ch.length ci))[i]? = some v → w.cell? ⟨b, o + i, none⟩ = some v) ∧ c.ch.length ≤ maxLen ∧ Rd w lo hi 2 Ai c.ch.length (rChartStep c.ch) ∧
    (own = true → (∀ i, w.frozen? ⟨b, i, none⟩ = false) ∧ ∀ a, Ai = some a → (c.ch.length = 0 ∨ a.block ≠ b ∧ ∀ i, w.frozen? ⟨a.block, i, none⟩ = false))
/-- The slice '.slice A n _' reads as the cranes l; 'own': its cells and its charts' may be written. -/
def RdC (w : World) (lo hi : Nat) (own : Bool) (A : Option Addr) (n : Nat) (l : List Crn) : Prop :=
  l.length = n ∧ (0 < n → ∃ b off, A = some ⟨b, off, none⟩ ∧ lo ≤ b ∧ b < hi ∧ ∀ i (h : i < l.length), CrAt w lo hi own b (off + i * 7) l[i])
section
variable {w w' : World} {lo hi lo' hi' n b o : Nat} {own : Bool} {A : Option Addr} {l : List Crn} {c : Crn}
theorem frozen_of_block {p : Addr} (h : w'.heap[p.block]? = w.heap[p.block]?) : w'.frozen? p = w.frozen? p := by
  unfold World.frozen?; rw [h]
theorem CrAt.keep (h : CrAt w lo hi own b o c) (hb : lo ≤ b) (hb2 : b < hi) (hk : ∀ g, lo ≤ g → g < hi → w'.heap[g]? = w.heap[g]?) : CrAt w' lo hi own b o c := by
  obtain ⟨Ai, ci, h1, h2, h3, h4⟩ := h
  refine ⟨Ai, ci, fun i v hv => (World.cell?_of_block (hk b hb hb2)).trans (h1 i v hv), h2, h3.keep fun p p1 p2 => World.cell?_of_block (hk _ p1 p2), fun ho => ?_⟩
  obtain ⟨k1, k2⟩ := h4 ho
  refine ⟨fun i => (frozen_of_block (p := ⟨b, i, none⟩) (hk b hb hb2)).trans (k1 i), fun a ha => ?_⟩
  rcases k2 a ha with k2 | ⟨k2, k3⟩
  · exact .inl k2
  · rcases Nat.eq_zero_or_pos c.ch.length with hz | hp
    · exact .inl hz
    · obtain ⟨bb, oo, he, q1, q2, _⟩ := h3.2 hp
      refine .inr ⟨k2, fun i => ?_⟩
      obtain rfl : a = ⟨bb, oo, none⟩ := by rw [ha] at he; exact Option.some.inj he
      exact (frozen_of_block (p := ⟨bb, i, none⟩) (hk bb q1 q2)).trans (k3 i)
theorem CrAt.mono (h : CrAt w lo hi own b o c) (h1 : lo' ≤ lo) (h2 : hi ≤ hi') : CrAt w lo' hi' own b o c := by
  obtain ⟨Ai, ci, k1, k2, k3, k4⟩ := h
  exact ⟨Ai, ci, k1, k2, k3.mono h1 h2, k4⟩
theorem RdC.nil (w : World) (lo hi : Nat) (own : Bool) (A : Option Addr) : RdC w lo hi own A 0 [] := ⟨rfl, fun h => absurd h (by omega)⟩
theorem RdC.length (h : RdC w lo hi own A n l) : l.length = n := h.1
theorem RdC.keep (h : RdC w lo hi own A n l) (hk : ∀ g, lo ≤ g → g < hi → w'.heap[g]? = w.heap[g]?) : RdC w' lo hi own A n l :=
  ⟨h.1, fun hn => by
    obtain ⟨b, off, hA, h1, h2, h3⟩ := h.2 hn
    exact ⟨b, off, hA, h1, h2, fun i hi => (h3 i hi).keep h1 h2 hk⟩⟩
theorem RdC.mono (h : RdC w lo hi own A n l) (h1 : lo' ≤ lo) (h2 : hi ≤ hi') : RdC w lo' hi' own A n l :=
  ⟨h.1, fun hn => by
    obtain ⟨b, off, hA, k1, k2, h3⟩ := h.2 hn
    exact ⟨b, off, hA, by omega, by omega, fun i hi => (h3 i hi).mono h1 h2⟩⟩
theorem RdC.below {B : Nat} (h : RdC w lo hi own A n l) (hb : Below B w w') (hB : hi ≤ B) : RdC w' lo hi own A n l := h.keep fun g _ hg => hb.block g (by omega)
theorem RdC.tch {p q : Nat} (h : RdC w lo hi own A n l) (hb : Tch p q w w') (hw : hi ≤ w.heap.size) (hd : hi ≤ p ∨ q ≤ lo) : RdC w' lo hi own A n l := h.keep fun g g1 g2 => hb.block g (by omega) (by omega)
theorem RdC.drew (h : RdC w lo hi own A n l) : RdC w.drew lo hi own A n l := h
theorem RdC.drewN (h : RdC w lo hi own A n l) (k : Nat) : RdC (w.drewN k) lo hi own A n l := h
theorem RdC.free (h : RdC w lo hi own A n l) : RdC w lo hi false A n l :=
  ⟨h.1, fun hn => by
    obtain ⟨b, off, hA, h1, h2, h3⟩ := h.2 hn
    refine ⟨b, off, hA, h1, h2, fun i hi => ?_⟩
    obtain ⟨Ai, ci, k1, k2, k3, _⟩ := h3 i hi
    exact ⟨Ai, ci, k1, k2, k3, fun e => by cases e⟩⟩
/-- The i-th crane. -/
theorem RdC.at_ {i : Nat} (h : RdC w lo hi own A n l) (hi' : i < l.length) : ∃ b off Ai ci, A = some ⟨b, off, none⟩ ∧ lo ≤ b ∧ b < hi ∧ w.cell? ⟨b, off + i * 7, none⟩ = some (.string l[i].nm) ∧ w.cell? ⟨b, off + i * 7 + 1, none⟩ = some (.int .i64 l[i].x) ∧ w.cell? ⟨b, off + i * 7 + 2, none⟩ = some (.int .i64 l[i].y) ∧ w.cell? ⟨b, off + i * 7 + 3, none⟩ = some (.int .i64 l[i].h) ∧
    w.cell? ⟨b, off + i * 7 + 4, none⟩ = some (.int .i64 l[i].j) ∧ w.cell? ⟨b, off + i * 7 + 5, none⟩ = some (.int .i64 l[i].b) ∧ w.cell? ⟨b, off + i * 7 + 6, none⟩ = some (.slice Ai l[i].ch.length ci) ∧ l[i].ch.length ≤ maxLen ∧ Rd w lo hi 2 Ai l[i].ch.length (rChartStep l[i].ch) := by
  obtain ⟨b, off, hA, h1, h2, h3⟩ := h.2 (by have := h.1; omega)
  obtain ⟨Ai, ci, k1, k2, k3, _⟩ := h3 i hi'
  exact ⟨b, off, Ai, ci, hA, h1, h2, k1 0 _ rfl, k1 1 _ rfl, k1 2 _ rfl, k1 3 _ rfl, k1 4 _ rfl, k1 5 _ rfl, k1 6 _ rfl, k2, k3⟩
end
/-- How large the first k cranes are, as the laws count it. -/
def szT (l : List Crn) (k : Nat) : Nat := ((l.take k).map fun c => c.nm.size + c.ch.length).sum
theorem szT_zero (l : List Crn) : szT l 0 = 0 := by simp [szT]
theorem szT_succ (l : List Crn) (k : Nat) (h : k < l.length) : szT l (k + 1) = szT l k + (l[k].nm.size + l[k].ch.length) := by
  unfold szT
  rw [List.take_succ_eq_append_getElem h, List.map_append, List.sum_append]
  simp
theorem szT_mono (l : List Crn) {i k : Nat} (h : i ≤ k) (hk : k ≤ l.length) : szT l i ≤ szT l k := by
  induction k with
  | zero => obtain rfl : i = 0 := by omega
            exact Nat.le_refl _
  | succ k ih =>
    rcases Nat.lt_or_ge k i with h1 | h1
    · obtain rfl : i = k + 1 := by omega
      exact Nat.le_refl _
    · have := szT_succ l k (by omega)
      have := ih h1 (by omega)
      omega
theorem szT_each (l : List Crn) (k : Nat) (h : k < l.length) : l[k].nm.size + l[k].ch.length ≤ szT l l.length := by
  have h1 := szT_succ l k h
  have h2 := szT_mono l (show k + 1 ≤ l.length by omega) (Nat.le_refl _)
  omega

set_option maxRecDepth 100000 in
set_option maxHeartbeats 2000000 in
theorem szCrane_ok (nm : ByteArray) (x y h j b : Int) (Ai : Option Addr) (ni ci : Nat) (q : Int) (hq : (nm.size : Int) + ni ≤ q) (hq2 : q ≤ 1048576) (w : World) :
    Calls Tryz.prog 22 #[.agg #[.string nm, .int .i64 x, .int .i64 y, .int .i64 h, .int .i64 j, .int .i64 b, .slice Ai ni ci], .int .i64 q] w fun e w' => e = .returned (.int .i64 (q - nm.size - ni)) ∧ Below w.heap.size w w' := by
  have h0 : (0 : Int) ≤ nm.size := by omega
  go_enter Tryz.func22, Tryz.ntmps22
  go_wp2_with fail
  refine (szChartStepS_ok Ai ni ci _ (by omega) (by omega) _).mono ?_
  rintro e w' ⟨rfl, rfl⟩
  go_wp2_with fail
  go_ret
  exact ⟨rfl, (Below.refl _ _).alloc (Nat.le_refl _) _⟩

set_option maxRecDepth 100000 in
set_option maxHeartbeats 2000000 in
theorem szCrane_big (nm : ByteArray) (x y h j b : Int) (Ai : Option Addr) (ni ci : Nat) (q : Int) (hq : q < (nm.size : Int) + ni) (hq0 : 0 ≤ q) (hq2 : q ≤ 1048576) (hm : ni ≤ maxLen) (hn : nm.size ≤ maxLen) (w : World) :
    Calls Tryz.prog 22 #[.agg #[.string nm, .int .i64 x, .int .i64 y, .int .i64 h, .int .i64 j, .int .i64 b, .slice Ai ni ci], .int .i64 q] w fun e w' => e = .returned (.int .i64 (-1)) ∧ Below w.heap.size w w' := by
  by_cases hf : q < (nm.size : Int)
  · unfold maxLen at *
    go_enter Tryz.func22, Tryz.ntmps22
    go_wp2_with fail
    go_ret
    exact ⟨rfl, (Below.refl _ _).alloc (Nat.le_refl _) _⟩
  · go_enter Tryz.func22, Tryz.ntmps22
    go_wp2_with fail
    refine (szChartStepS_big Ai ni ci _ (by omega) (by omega) (by omega) hm _).mono ?_
    rintro e w' ⟨rfl, rfl⟩
    go_wp2_with fail
    go_ret
    exact ⟨rfl, (Below.refl _ _).alloc (Nat.le_refl _) _⟩

set_option maxRecDepth 100000 in
set_option maxHeartbeats 2000000 in
theorem szCraneS_ok (A : Option Addr) (n c lo hi : Nat) (own : Bool) (l : List Crn) (q : Int) (hq : (n : Int) + (szT l n : Nat) ≤ q) (hq2 : q ≤ 1048576) (w : World) (h : RdC w lo hi own A n l) (hhi : hi ≤ w.heap.size) :
    Calls Tryz.prog 9 #[.slice A n c, .int .i64 q] w fun e w' => e = .returned (.int .i64 (q - n - (szT l n : Nat))) ∧ Below w.heap.size w w' := by
  have H2 := hide h
  have H1 := hide h.length
  clear h
  go_enter Tryz.func9, Tryz.ntmps9
  go_wp2
  go_loopw [1, 5] (fun q' i wr => ∃ k : Nat, k ≤ n ∧ i = .int .i64 k ∧ q' = .int .i64 (q - n - (szT l k : Nat)) ∧ Below w.heap.size w wr) (fun _ i _ => n - (intOf i).toNat)
  case atStart => exact ⟨0, by omega, rfl, vint (by rw [szT_zero]; omega), Below.refl _ _⟩
  case round =>
    obtain ⟨k, hk, rfl, rfl, hbr⟩ := hrel
    by_cases hlt : k < n
    · skip
      obtain ⟨b, off, Ai, ci, rfl, hb1, hb2, c0, c1, c2, c3, c4, c5, c6, hnm, _⟩ := H2.out.at_ (i := k) (by rw [H1.out]; exact hlt)
      have hkl : k < l.length := by rw [H1.out]; exact hlt
      replace c0 := (hbr.cell (p := ⟨b, _, none⟩) (by show b < _; omega)).trans c0
      replace c1 := (hbr.cell (p := ⟨b, _, none⟩) (by show b < _; omega)).trans c1
      replace c2 := (hbr.cell (p := ⟨b, _, none⟩) (by show b < _; omega)).trans c2
      replace c3 := (hbr.cell (p := ⟨b, _, none⟩) (by show b < _; omega)).trans c3
      replace c4 := (hbr.cell (p := ⟨b, _, none⟩) (by show b < _; omega)).trans c4
      replace c5 := (hbr.cell (p := ⟨b, _, none⟩) (by show b < _; omega)).trans c5
      replace c6 := (hbr.cell (p := ⟨b, _, none⟩) (by show b < _; omega)).trans c6
      have hs := szT_succ l k hkl
      have HS := hide hs
      have hm2 := szT_mono l (show k + 1 ≤ l.length by omega) (Nat.le_refl _)
      rw [H1.out] at hm2
      generalize l[k] = c at *
      obtain ⟨nm, x, y, h, j, b', ch⟩ := c
      dsimp only at c0 c1 c2 c3 c4 c5 c6 hnm hs HS
      generalize ch.length = ni at *
      clear hs
      have hsz := hbr.size
      have hle : (szT l k : Int) + (nm.size + ni) ≤ szT l n := by have := HS.out; omega
      go_wp2_with fail
      refine (szCrane_ok nm x y h j b' Ai ni ci _ (by omega) (by omega) _).mono ?_
      rintro e w2 ⟨rfl, hb2⟩
      go_wp2_with fail
      go_roundw
      case rel => exact ⟨k + 1, by omega, by go_num, vint (by have := HS.out; omega), hbr.trans (hb2.mono hsz)⟩
      case measure => simp [intOf]; omega
    · obtain rfl : k = n := by omega
      go_wp2
      go_ret
      exact ⟨rfl, hbr⟩

set_option maxRecDepth 100000 in
set_option maxHeartbeats 2000000 in
theorem szCraneS_big (A : Option Addr) (n c lo hi : Nat) (own : Bool) (l : List Crn) (q : Int) (hq : q < (n : Int) + (szT l n : Nat)) (hq0 : 0 ≤ q) (hq2 : q ≤ 1048576) (hm : n ≤ maxLen) (hnms : ∀ p ∈ l, p.nm.size ≤ maxLen) (w : World) (h : RdC w lo hi own A n l) (hhi : hi ≤ w.heap.size) :
    Calls Tryz.prog 9 #[.slice A n c, .int .i64 q] w fun e w' => e = .returned (.int .i64 (-1)) ∧ Below w.heap.size w w' := by
  unfold maxLen at hm
  have H2 := hide h
  have H1 := hide h.length
  clear h
  have HNM := hide hnms
  clear hnms
  by_cases hn : q < n
  · go_enter Tryz.func9, Tryz.ntmps9
    go_wp2
    go_ret
    exact ⟨rfl, Below.refl _ _⟩
  · go_enter Tryz.func9, Tryz.ntmps9
    go_wp2
    go_loopw [1, 5] (fun q' i wr => ∃ k : Nat, k ≤ n ∧ i = .int .i64 k ∧ (szT l k : Int) ≤ q - n ∧ q' = .int .i64 (q - n - (szT l k : Nat)) ∧ Below w.heap.size w wr) (fun _ i _ => n - (intOf i).toNat)
    case atStart => exact ⟨0, by omega, rfl, by rw [szT_zero]; omega, vint (by rw [szT_zero]; omega), Below.refl _ _⟩
    case round =>
      obtain ⟨k, hk, rfl, hle, rfl, hbr⟩ := hrel
      have hlt : k < n := by
        rcases Nat.lt_or_ge k n with h | h
        · exact h
        · obtain rfl : k = n := by omega
          omega
      obtain ⟨b, off, Ai, ci, rfl, hb1, hb2, c0, c1, c2, c3, c4, c5, c6, hnm, _⟩ := H2.out.at_ (i := k) (by rw [H1.out]; exact hlt)
      have hkl : k < l.length := by rw [H1.out]; exact hlt
      replace c0 := (hbr.cell (p := ⟨b, _, none⟩) (by show b < _; omega)).trans c0
      replace c1 := (hbr.cell (p := ⟨b, _, none⟩) (by show b < _; omega)).trans c1
      replace c2 := (hbr.cell (p := ⟨b, _, none⟩) (by show b < _; omega)).trans c2
      replace c3 := (hbr.cell (p := ⟨b, _, none⟩) (by show b < _; omega)).trans c3
      replace c4 := (hbr.cell (p := ⟨b, _, none⟩) (by show b < _; omega)).trans c4
      replace c5 := (hbr.cell (p := ⟨b, _, none⟩) (by show b < _; omega)).trans c5
      replace c6 := (hbr.cell (p := ⟨b, _, none⟩) (by show b < _; omega)).trans c6
      have hs := szT_succ l k hkl
      have HS := hide hs
      have hm2 := szT_mono l (show k + 1 ≤ l.length by omega) (Nat.le_refl _)
      rw [H1.out] at hm2
      have hnl := HNM.out _ (List.getElem_mem hkl)
      generalize l[k] = c at *
      obtain ⟨nm, x, y, h, j, b', ch⟩ := c
      dsimp only at c0 c1 c2 c3 c4 c5 c6 hnm hs HS hnl
      generalize ch.length = ni at *
      clear hs hm2
      have hsz := hbr.size
      by_cases hf : (nm.size : Int) + ni ≤ q - n - (szT l k : Nat)
      · go_wp2_with fail
        refine (szCrane_ok nm x y h j b' Ai ni ci _ (by omega) (by omega) _).mono ?_
        rintro e w2 ⟨rfl, hb2⟩
        go_wp2_with fail
        go_roundw
        case rel => exact ⟨k + 1, by omega, by go_num, by have := HS.out; omega, vint (by have := HS.out; omega), hbr.trans (hb2.mono hsz)⟩
        case measure => simp [intOf]; omega
      · go_wp2_with fail
        refine (szCrane_big nm x y h j b' Ai ni ci _ (by omega) (by omega) (by omega) hnm hnl _).mono ?_
        rintro e w2 ⟨rfl, hb2⟩
        go_wp2_with fail
        go_ret
        exact ⟨rfl, hbr.trans (hb2.mono hsz)⟩

set_option maxRecDepth 100000 in
set_option maxHeartbeats 2000000 in
theorem szSite_ok (A : Option Addr) (n c lo hi : Nat) (own : Bool) (l : List Crn) (q : Int) (hq : (n : Int) + (szT l n : Nat) ≤ q) (hq2 : q ≤ 1048576) (w : World) (h : RdC w lo hi own A n l) (hhi : hi ≤ w.heap.size) :
    Calls Tryz.prog 4 #[.agg #[.slice A n c], .int .i64 q] w fun e w' => e = .returned (.int .i64 (q - n - (szT l n : Nat))) ∧ Below w.heap.size w w' := by
  go_enter Tryz.func4, Tryz.ntmps4
  go_wp2_with fail
  refine (szCraneS_ok A n c lo hi own l q hq hq2 _ (h.below ((Below.refl _ _).alloc (Nat.le_refl _) _) hhi) (by simp; omega)).mono ?_
  rintro e w1 ⟨rfl, hb1⟩
  have hb := ((Below.refl _ _).alloc (Nat.le_refl _) _).trans (hb1.mono (by simp))
  clear hb1
  go_wp2_with fail
  go_ret
  exact ⟨rfl, hb⟩

set_option maxRecDepth 100000 in
set_option maxHeartbeats 2000000 in
theorem szSite_big (A : Option Addr) (n c lo hi : Nat) (own : Bool) (l : List Crn) (q : Int) (hq : q < (n : Int) + (szT l n : Nat)) (hq0 : 0 ≤ q) (hq2 : q ≤ 1048576) (hm : n ≤ maxLen) (hnms : ∀ p ∈ l, p.nm.size ≤ maxLen) (w : World) (h : RdC w lo hi own A n l) (hhi : hi ≤ w.heap.size) :
    Calls Tryz.prog 4 #[.agg #[.slice A n c], .int .i64 q] w fun e w' => e = .returned (.int .i64 (-1)) ∧ Below w.heap.size w w' := by
  have HM := hide hnms
  clear hnms
  go_enter Tryz.func4, Tryz.ntmps4
  go_wp2_with fail
  refine (szCraneS_big A n c lo hi own l q hq hq0 hq2 hm HM.out _ (h.below ((Below.refl _ _).alloc (Nat.le_refl _) _) hhi) (by simp; omega)).mono ?_
  rintro e w1 ⟨rfl, hb1⟩
  have hb := ((Below.refl _ _).alloc (Nat.le_refl _) _).trans (hb1.mono (by simp))
  clear hb1
  go_wp2_with fail
  go_ret
  exact ⟨rfl, hb⟩

end Go.Proofs.YtajjophmngabbaaGreatDoor
