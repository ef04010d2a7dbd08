/-
  CONTRACTS of the laws' helpers that mark a site: they touch the site's own blocks alone. No condition but those that each theorem names.
-/
import Derived.Test.YtmpccakgpahpoaaCr3
import Derived.Laws.BytesArg
namespace Go.Proofs.Ytmpccakgpahpoaa
open Go.RowKit
set_option linter.unusedVariables false
theorem one_u8 (w : World) (v : Int) (T : TypeId) : ∀ i, i < 1 → (w.alloc (.cells #[.int .u8 v] T)).cell? ⟨w.heap.size, 0 + i, none⟩ = some (.int .u8 ([v].getD i 0)) := by
  intro i hi
  obtain rfl : i = 0 := by omega
  exact new_cell _ _ _ 0

set_option maxRecDepth 100000 in
set_option maxHeartbeats 2000000 in
theorem markText_any (k : Int) (h0 : 0 ≤ k) (h1 : k ≤ 1000000000000000) (w : World) :
    Calls Try.prog 105 #[.int .i64 k] w fun e w' => (∃ s, e = .returned (.string s)) ∧ Below w.heap.size w w' := by
  by_cases hz : k ≤ 0
  · skip
    go_enter Try.func105, Try.ntmps105
    go_wp2_with fail
    go_ret
    exact ⟨⟨_, rfl⟩, Below.refl _ _⟩
  go_enter Try.func105, Try.ntmps105
  go_wp2_with fail
  go_loopw [0, 3] (fun kk ss wr => ∃ (q : Int) (s : ByteArray), 0 ≤ q ∧ q ≤ k ∧ (s.size : Int) + q ≤ k ∧ kk = .int .i64 q ∧ ss = .string s ∧ Below w.heap.size w wr) (fun kk _ _ => (intOf kk).toNat)
  case atStart => exact ⟨k, ⟨#[]⟩, h0, Int.le_refl _, by show ((0 : Nat) : Int) + k ≤ k; omega, rfl, rfl, Below.refl _ _⟩
  case round =>
    obtain ⟨q, s, hq0, hqk, hqs, rfl, rfl, hbr⟩ := hrel
    have hsz := hbr.size
    by_cases hlt : 0 < q
    · have p1 : 0 ≤ q % 10 := by omega
      have p2 : q % 10 ≤ 9 := by omega
      have p3 : 0 ≤ q / 10 := by omega
      have p4 : q / 10 < q := by omega
      obtain ⟨z, hz⟩ : ∃ z, strOfNums [48 + q % 10] = z := ⟨_, rfl⟩
      have hcv : (convert 164 9 (.slice (some ⟨wr.heap.size, 0, none⟩) 1 1)).run Try.prog (wr.alloc (.cells #[.int .u8 (48 + q % 10)] 5)) = .ok (.string z) (wr.alloc (.cells #[.int .u8 (48 + q % 10)] 5)) := by rw [← hz]; exact run_convert_bytes_arg _ _ _ Try.underlying164 Try.underlying5 wr.heap.size 0 1 1 [48 + q % 10] rfl (one_u8 _ _ _) _ Try.underlying9
      have hzs : z.size = 1 := by rw [← hz]; rfl
      clear hz
      go_wp2_with fail
      go_roundw
      case rel => exact ⟨q / 10, _, by omega, by omega, by rw [ByteArray.size_append]; omega, by go_num, rfl, hbr.alloc hsz _⟩
      case measure => simp [intOf]; omega
    · go_wp2_with fail
      go_ret
      exact ⟨⟨_, rfl⟩, hbr⟩

/-- Only the block g has turned: what could be read or written, still can. -/
structure Sto (g : Nat) (w w' : World) : Prop where
  os : w'.os = w.os
  tape : w'.tape = w.tape
  output : w'.output = w.output
  size : w.heap.size ≤ w'.heap.size
  block : ∀ k, k < w.heap.size → k ≠ g → w'.heap[k]? = w.heap[k]?
  ex : ∀ p : Addr, (∃ u, w.cell? p = some u) → ∃ u, w'.cell? p = some u
  fz : ∀ p : Addr, p.block < w.heap.size → w'.frozen? p = w.frozen? p
theorem Sto.refl (g : Nat) (w : World) : Sto g w w := ⟨rfl, rfl, rfl, Nat.le_refl _, fun _ _ _ => rfl, fun _ h => h, fun _ _ => rfl⟩
theorem Sto.put {g : Nat} {w v : World} (h : Sto g w v) (j : Nat) (u : Value) : Sto g w (v.setCell ⟨g, j, none⟩ u) :=
  ⟨h.os, h.tape, h.output, by simp [World.setCell]; exact h.size, fun k hk hg => (Below.heap_setCell v ⟨g, j, none⟩ u k hg).trans (h.block k hk hg),
    fun p hp => by
      obtain ⟨y, hy⟩ := h.ex p hp
      obtain ⟨y', hy'⟩ := cell?_setCell_some (w := v) (p := ⟨g, j, none⟩) (x := u) (q := p) hy
      exact ⟨y', hy'⟩,
    fun p hp => (World.frozen?_setCell _ _ _ _).trans (h.fz p hp)⟩
theorem Sto.tch {g lo hi : Nat} {w v : World} (h : Sto g w v) (h1 : lo ≤ g) (h2 : g < hi) : Tch lo hi w v := ⟨h.os, h.tape, h.output, h.size, fun k hk hb => h.block k hk (by omega)⟩
/-- A chart that may be written. -/
def WCh (w : World) (lo hi b : Nat) (A : Option Addr) (m : Nat) : Prop :=
  m = 0 ∨ ∃ g o, A = some ⟨g, o, none⟩ ∧ lo ≤ g ∧ g < hi ∧ g ≠ b ∧ (∀ q, q < m * 2 → ∃ u, w.cell? ⟨g, o + q, none⟩ = some u) ∧ ∀ q, w.frozen? ⟨g, q, none⟩ = false
theorem WCh.keep {w v : World} {lo hi b m : Nat} {A : Option Addr} (h : WCh w lo hi b A m) (hc : ∀ p : Addr, p.block < hi → (∃ u, w.cell? p = some u) → ∃ u, v.cell? p = some u) (hf : ∀ p : Addr, p.block < hi → v.frozen? p = w.frozen? p) : WCh v lo hi b A m :=
  h.imp id fun ⟨g, o, e, h1, h2, h3, h4, h5⟩ => ⟨g, o, e, h1, h2, h3, fun q hq => hc _ h2 (h4 q hq), fun q => (hf _ h2).trans (h5 q)⟩
/-- The cranes from k on, before they are marked. -/
def MkC (w : World) (lo hi b off : Nat) (l : List Crn) (k : Nat) : Prop :=
  (∀ q, q < l.length * 7 → ∃ u, w.cell? ⟨b, off + q, none⟩ = some u) ∧ (∀ q, w.frozen? ⟨b, q, none⟩ = false) ∧
    ∀ j (hj : j < l.length), k ≤ j → ∃ A c, w.cell? ⟨b, off + j * 7 + 6, none⟩ = some (.slice A l[j].ch.length c) ∧ l[j].ch.length ≤ maxLen ∧ WCh w lo hi b A l[j].ch.length
section
variable {w v : World} {lo hi b off k g : Nat} {l : List Crn}
theorem MkC.of (hlen : 0 < l.length) (h : ∀ i (h : i < l.length), CrAt w lo hi true b (off + i * 7) l[i]) : MkC w lo hi b off l 0 := by
  refine ⟨fun q hq => ?_, ?_, fun j hj _ => ?_⟩
  · obtain ⟨A, c, k1, _⟩ := h (q / 7) (by omega)
    have hm : q % 7 < 7 := Nat.mod_lt _ (by omega)
    have e : off + q / 7 * 7 + q % 7 = off + q := by omega
    have hl : (cCr l[q / 7] (.slice A l[q / 7].ch.length c)).length = 7 := rfl
    have := k1 (q % 7) _ (List.getElem?_eq_getElem (by rw [hl]; exact hm))
    rw [e] at this
    exact ⟨_, this⟩
  · obtain ⟨_, _, _, _, _, k4⟩ := h 0 hlen
    exact (k4 rfl).1
  · obtain ⟨A, c, k1, k2, k3, k4⟩ := h j hj
    refine ⟨A, c, k1 6 _ rfl, k2, ?_⟩
    rcases Nat.eq_zero_or_pos l[j].ch.length with h0 | hp
    · exact .inl h0
    · obtain ⟨g, o, e, q1, q2, q3⟩ := k3.2 hp
      subst e
      rcases (k4 rfl).2 _ rfl with h0 | ⟨h0, h1⟩
      · omega
      · refine .inr ⟨g, o, rfl, q1, q2, h0, fun q hq => ?_, h1⟩
        exact ⟨_, q3 q _ (List.getElem?_eq_getElem (by have := k3.1; omega))⟩
theorem MkC.below (h : MkC w lo hi b off l k) (hb : Below w.heap.size w v) (hbw : b < w.heap.size) (hh : hi ≤ w.heap.size) : MkC v lo hi b off l k :=
  ⟨fun q hq => by obtain ⟨u, hu⟩ := h.1 q hq; exact ⟨u, (hb.cell (p := ⟨b, off + q, none⟩) hbw).trans hu⟩, fun q => (hb.frozen (p := ⟨b, q, none⟩) hbw).trans (h.2.1 q),
    fun j hj hk => by
      obtain ⟨A, c, h1, h2, h3⟩ := h.2.2 j hj hk
      exact ⟨A, c, (hb.cell (p := ⟨b, off + j * 7 + 6, none⟩) hbw).trans h1, h2, h3.keep (fun p hp ⟨u, hu⟩ => ⟨u, (hb.cell (by omega)).trans hu⟩) (fun p hp => hb.frozen (by omega))⟩⟩
theorem MkC.chart (h : MkC w lo hi b off l k) (hs : Sto g w v) (hg : g ≠ b) (hbw : b < w.heap.size) (hh : hi ≤ w.heap.size) : MkC v lo hi b off l k :=
  ⟨fun q hq => hs.ex _ (h.1 q hq), fun q => (hs.fz ⟨b, q, none⟩ hbw).trans (h.2.1 q),
    fun j hj hk => by
      obtain ⟨A, c, h1, h2, h3⟩ := h.2.2 j hj hk
      exact ⟨A, c, (World.cell?_of_block (a := ⟨b, off + j * 7 + 6, none⟩) (hs.block b hbw (fun e => hg e.symm))).trans h1, h2, h3.keep (fun p _ hu => hs.ex p hu) (fun p hp => hs.fz p (by omega))⟩⟩
theorem MkC.put (h : MkC w lo hi b off l k) (x : Nat) (u : Value) (hx : x < off + k * 7 + 6) : MkC (w.setCell ⟨b, x, none⟩ u) lo hi b off l k :=
  have hs : Sto b w (w.setCell ⟨b, x, none⟩ u) := (Sto.refl _ _).put _ _
  ⟨fun q hq => hs.ex _ (h.1 q hq), fun q => (World.frozen?_setCell _ _ _ _).trans (h.2.1 q),
    fun j hj hk => by
      obtain ⟨A, c, h1, h2, h3⟩ := h.2.2 j hj hk
      exact ⟨A, c, (World.cell?_setCell_other (w := w) (a := ⟨b, x, none⟩) (b := ⟨b, off + j * 7 + 6, none⟩) (v := u) (by intro e; injection e with _ e2; omega)).trans h1, h2, h3.keep (fun p _ hu => hs.ex p hu) (fun p _ => World.frozen?_setCell _ _ _ _)⟩⟩
theorem MkC.succ (h : MkC w lo hi b off l k) : MkC w lo hi b off l (k + 1) := ⟨h.1, h.2.1, fun j hj hk => h.2.2 j hj (by omega)⟩
end

set_option maxRecDepth 100000 in
set_option maxHeartbeats 2000000 in
theorem markChart_nil (A : Option Addr) (c : Nat) (q : Int) (w : World) :
    Calls Try.prog 106 #[.slice A 0 c, .int .i64 q] w fun e w' => e = .returned (.int .i64 q) ∧ w = w' := by
  go_enter Try.func106, Try.ntmps106
  go_wp2
  go_loopw [1, 5] (fun kk i wr => i = .int .i64 0 ∧ kk = .int .i64 q ∧ w = wr) (fun _ _ _ => 0)
  case atStart => exact ⟨rfl, rfl, rfl⟩
  case round =>
    obtain ⟨rfl, rfl, rfl⟩ := hrel
    go_wp2
    go_ret
    exact ⟨rfl, rfl⟩

set_option maxRecDepth 100000 in
set_option maxHeartbeats 2000000 in
theorem markChart_wr (g off n c : Nat) (q : Int) (hq : 0 ≤ q) (hq2 : q ≤ 100000000) (hn : n ≤ 1048576) (w : World) (he : ∀ j, j < n * 2 → ∃ u, w.cell? ⟨g, off + j, none⟩ = some u) (hf : ∀ j, w.frozen? ⟨g, j, none⟩ = false) (hg : g < w.heap.size) :
    Calls Try.prog 106 #[.slice (some ⟨g, off, none⟩) n c, .int .i64 q] w fun e w' => e = .returned (.int .i64 (q + ((n * 2 : Nat) : Int))) ∧ Sto g w w' := by
  have HE := hide he
  have HF := hide hf
  clear he hf
  go_enter Try.func106, Try.ntmps106
  go_wp2
  go_loopw [1, 5] (fun kk i wr => ∃ k : Nat, k ≤ n ∧ i = .int .i64 k ∧ kk = .int .i64 (q + ((k * 2 : Nat) : Int)) ∧ Sto g w wr) (fun _ i _ => n - (intOf i).toNat)
  case atStart => exact ⟨0, by omega, rfl, vint (by omega), Sto.refl _ _⟩
  case round =>
    obtain ⟨k, hk, rfl, rfl, ht⟩ := hrel
    by_cases hlt : k < n
    · obtain ⟨u0, d0⟩ := ht.ex _ (HE.out (k * 2) (by omega))
      obtain ⟨u1, d1⟩ := ht.ex _ (HE.out (k * 2 + 1) (by omega))
      rw [← Nat.add_assoc] at d1
      have f0 := (ht.fz ⟨g, off + k * 2, none⟩ hg).trans (HF.out _)
      have f1 := (ht.fz ⟨g, off + k * 2 + 1, none⟩ hg).trans (HF.out _)
      go_wp2_with fail
      go_roundw
      case rel => exact ⟨k + 1, by omega, by go_num, vint (by omega), (ht.put _ _).put _ _⟩
      case measure => simp [intOf]; omega
    · obtain rfl : k = n := by omega
      go_wp2
      go_ret
      exact ⟨rfl, ht⟩

set_option maxRecDepth 100000 in
set_option maxHeartbeats 2000000 in
theorem markCraneS_any (A : Option Addr) (n c lo hi : Nat) (l : List Crn) (q : Int) (hq : 0 ≤ q) (hq2 : q ≤ 1048576) (hb : n + szT l n ≤ 1048576) (w : World) (h : RdC w lo hi true A n l) (hhi : hi ≤ w.heap.size) :
    Calls Try.prog 73 #[.slice A n c, .int .i64 q] w fun e w' => (∃ r : Int, 0 ≤ r ∧ e = .returned (.int .i64 r)) ∧ Tch lo hi w w' := by
  rcases Nat.eq_zero_or_pos n with h0 | hpn
  · subst h0
    clear h
    go_enter Try.func73, Try.ntmps73
    go_wp2
    go_loopw [1, 5] (fun kk i wr => i = .int .i64 0 ∧ kk = .int .i64 q ∧ w = wr) (fun _ _ _ => 0)
    case atStart => exact ⟨rfl, rfl, rfl⟩
    case round =>
      obtain ⟨rfl, rfl, rfl⟩ := hrel
      go_wp2
      go_ret
      exact ⟨⟨_, hq, rfl⟩, Tch.refl _ _ _⟩
  obtain ⟨b, off, rfl, hlb, hbh, hall⟩ := h.2 hpn
  have hM := MkC.of (by have := h.length; omega) hall
  have HM := hide hM
  have H1 := hide h.length
  clear hM hall h
  have hbw : b < w.heap.size := by omega
  go_enter Try.func73, Try.ntmps73
  go_wp2
  go_loopw [1, 5] (fun kk i wr => ∃ k : Nat, ∃ r : Int, k ≤ n ∧ i = .int .i64 k ∧ kk = .int .i64 r ∧ 0 ≤ r ∧ r ≤ q + 6 * (k : Int) + 2 * (szT l k : Nat) ∧ Hid (MkC wr lo hi b off l k) ∧ Tch lo hi w wr) (fun _ i _ => n - (intOf i).toNat)
  case atStart => exact ⟨0, q, by omega, rfl, rfl, hq, by rw [szT_zero]; omega, HM, Tch.refl _ _ _⟩
  case round =>
    clear HM
    obtain ⟨k, r, hk, rfl, rfl, hr0, hr1, HM, ht⟩ := hrel
    by_cases hlt : k < n
    · have hil : k < l.length := by rw [H1.out]; exact hlt
      obtain ⟨Aj, cj, hc6, hmx, hwc⟩ := HM.out.2.2 k hil (Nat.le_refl _)
      have hsu := szT_succ l k hil
      have HSU := hide hsu
      have hmo := szT_mono l (show k + 1 ≤ l.length by omega) (Nat.le_refl _)
      rw [H1.out] at hmo
      obtain ⟨ni, hni⟩ : ∃ ni, l[k].ch.length = ni := ⟨_, rfl⟩
      rw [hni] at hc6 hmx hwc hsu HSU
      clear hni
      generalize l[k].nm.size = sn at *
      have hbr := ht.size
      have hbw' : b < wr.heap.size := by omega
      have hhw : hi ≤ wr.heap.size := by omega
      have hni2 : ni ≤ 1048576 := by omega
      have hr2 : r ≤ 50000000 := by omega
      clear hsu
      go_wp2_with fail
      refine (markText_any r hr0 (by omega) _).mono ?_
      rintro e w2 ⟨⟨s, rfl⟩, hb2⟩
      have hs2 := hb2.size
      have HM2 := hide (HM.out.below hb2 hbw' hhw)
      have HW2 := hide (hwc.keep (v := w2) (fun p hp ⟨u, hu⟩ => ⟨u, (hb2.cell (by omega)).trans hu⟩) (fun p hp => hb2.frozen (by omega)))
      have d6 : w2.cell? ⟨b, off + k * 7 + 6, none⟩ = some (.slice Aj ni cj) := (hb2.cell (p := ⟨b, off + k * 7 + 6, none⟩) hbw').trans hc6
      have ht2 : Tch lo hi w w2 := ht.trans (Tch.of_below hb2 _ _)
      clear hc6 hwc HM ht hb2
      obtain ⟨u0, d0⟩ := HM2.out.1 (k * 7) (by omega)
      obtain ⟨u1, d1⟩ := HM2.out.1 (k * 7 + 1) (by omega)
      obtain ⟨u2, d2⟩ := HM2.out.1 (k * 7 + 2) (by omega)
      obtain ⟨u3, d3⟩ := HM2.out.1 (k * 7 + 3) (by omega)
      obtain ⟨u4, d4⟩ := HM2.out.1 (k * 7 + 4) (by omega)
      obtain ⟨u5, d5⟩ := HM2.out.1 (k * 7 + 5) (by omega)
      rw [← Nat.add_assoc] at d1
      rw [← Nat.add_assoc] at d2
      rw [← Nat.add_assoc] at d3
      rw [← Nat.add_assoc] at d4
      rw [← Nat.add_assoc] at d5
      have f0 := HM2.out.2.1 (off + k * 7)
      have f1 := HM2.out.2.1 (off + k * 7 + 1)
      have f2 := HM2.out.2.1 (off + k * 7 + 2)
      have f3 := HM2.out.2.1 (off + k * 7 + 3)
      have f4 := HM2.out.2.1 (off + k * 7 + 4)
      have f5 := HM2.out.2.1 (off + k * 7 + 5)
      rcases Nat.eq_zero_or_pos ni with h0 | hp
      · subst h0
        go_wp2_with fail
        generalize hwx : World.setCell _ _ _ = wx
        have ht3 : Tch lo hi w wx := by rw [← hwx]; exact (tch_set (tch_set (tch_set (tch_set (tch_set (tch_set ht2 hlb hbh _ _) hlb hbh _ _) hlb hbh _ _) hlb hbh _ _) hlb hbh _ _) hlb hbh _ _)
        have HM3 := hide (show MkC wx lo hi b off l k by rw [← hwx]; exact ((((((HM2.out.put _ _ (by omega)).put _ _ (by omega)).put _ _ (by omega)).put _ _ (by omega)).put _ _ (by omega)).put _ _ (by omega)))
        have hst : Sto b w2 wx := by rw [← hwx]; exact (((((((Sto.refl b w2).put _ _).put _ _).put _ _).put _ _).put _ _).put _ _)
        have hz3 := hst.size
        clear hwx d0 d1 d2 d3 d4 d5 d6 f0 f1 f2 f3 f4 f5 HM2 ht2
        refine (markChart_nil _ _ _ _).mono ?_
        rintro e w4 ⟨rfl, rfl⟩
        clear hst
        go_wp2_with fail
        go_roundw
        case rel => exact ⟨k + 1, _, by omega, by go_num, rfl, by omega, by have := HSU.out; omega, hide HM3.out.succ, ht3⟩
        case measure => simp [intOf]; omega
      · skip
        go_wp2_with fail
        generalize hwx : World.setCell _ _ _ = wx
        have ht3 : Tch lo hi w wx := by rw [← hwx]; exact (tch_set (tch_set (tch_set (tch_set (tch_set (tch_set ht2 hlb hbh _ _) hlb hbh _ _) hlb hbh _ _) hlb hbh _ _) hlb hbh _ _) hlb hbh _ _)
        have HM3 := hide (show MkC wx lo hi b off l k by rw [← hwx]; exact ((((((HM2.out.put _ _ (by omega)).put _ _ (by omega)).put _ _ (by omega)).put _ _ (by omega)).put _ _ (by omega)).put _ _ (by omega)))
        have hst : Sto b w2 wx := by rw [← hwx]; exact (((((((Sto.refl b w2).put _ _).put _ _).put _ _).put _ _).put _ _).put _ _)
        have hz3 := hst.size
        clear hwx d0 d1 d2 d3 d4 d5 d6 f0 f1 f2 f3 f4 f5 HM2 ht2
        have HW3 := hide (HW2.out.keep (v := wx) (fun p _ hu => hst.ex p hu) (fun p hp => hst.fz p (by omega)))
        clear HW2
        rcases HW3.out with h0 | ⟨g, o, rfl, g1, g2, g3, g4, g5⟩
        · exfalso; omega
        have G4 := hide g4
        have G5 := hide g5
        clear g4 g5 HW3 hst
        refine (markChart_wr g o ni _ _ (by omega) (by omega) hni2 _ G4.out G5.out (by omega)).mono ?_
        rintro e w4 ⟨rfl, hst⟩
        have ht4 := ht3.trans (hst.tch g1 g2)
        have HM4 := hide (HM3.out.chart hst g3 (by omega) (by omega)).succ
        clear HM3 ht3 hst G4 G5
        go_wp2_with fail
        go_roundw
        case rel => exact ⟨k + 1, _, by omega, by go_num, rfl, by omega, by have := HSU.out; omega, HM4, ht4⟩
        case measure => simp [intOf]; omega
    · obtain rfl : k = n := by omega
      go_wp2
      go_ret
      exact ⟨⟨_, hr0, rfl⟩, ht⟩

set_option maxRecDepth 100000 in
set_option maxHeartbeats 2000000 in
theorem markSite_any (A : Option Addr) (n c lo hi : Nat) (l : List Crn) (q : Int) (hq : 0 ≤ q) (hq2 : q ≤ 1048576) (hb : n + szT l n ≤ 1048576) (w : World) (h : RdC w lo hi true A n l) (hhi : hi ≤ w.heap.size) :
    Calls Try.prog 36 #[.agg #[.slice A n c], .int .i64 q] w fun e w' => (∃ r : Int, 0 ≤ r ∧ e = .returned (.int .i64 r)) ∧ Tch lo hi w w' := by
  have HR := hide (h.below ((Below.refl _ _).alloc (Nat.le_refl _) (.cells #[.slice A n c] 36)) hhi)
  clear h
  go_enter Try.func36, Try.ntmps36
  go_wp2_with fail
  refine (markCraneS_any A n c lo hi l q hq hq2 hb _ HR.out (by simp; omega)).mono ?_
  rintro e w2 ⟨⟨r, hr, rfl⟩, ht⟩
  have ht2 := (Tch.of_below ((Below.refl _ _).alloc (Nat.le_refl _) _) lo hi).trans ht
  clear ht
  go_wp2_with fail
  go_ret
  exact ⟨⟨_, hr, rfl⟩, ht2⟩

end Go.Proofs.Ytmpccakgpahpoaa
