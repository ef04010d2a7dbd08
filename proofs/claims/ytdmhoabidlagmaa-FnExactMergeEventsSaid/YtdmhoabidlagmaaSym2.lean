/-
  SYMMERGE of events, whole. No condition but those that each theorem names.
-/
import Derived.Test.YtdmhoabidlagmaaSym
import Derived.Deep.DeepCutAuto
namespace Go.Proofs.Ytdmhoabidlagmaa
open Go.RowKit
set_option linter.unusedVariables false
set_option linter.unusedSimpArgs false

/-- Where the two pieces are cut. -/
theorem sym_cut {A U V B : List Evt} (h1 : Srt (A ++ U)) (h2 : Srt (V ++ B)) (c1 : ∀ x ∈ A, ∀ y ∈ B, x.1 ≤ y.1) (c2 : ∀ u ∈ U, ∀ v ∈ V, v.1 < u.1) : stS (A ++ V) ++ stS (U ++ B) = stS ((A ++ U) ++ (V ++ B)) := by
  obtain ⟨a1, a2, a3⟩ := Srt.app.1 h1
  obtain ⟨b1, b2, b3⟩ := Srt.app.1 h2
  refine st_eq (Srt.app.2 ⟨stS_srt _, stS_srt _, fun x hx y hy => ?_⟩) ?_
  · rw [(stS_sm _).mem] at hx hy
    rcases List.mem_append.1 hx with hx | hx <;> rcases List.mem_append.1 hy with hy | hy
    · exact a3 x hx y hy
    · exact c1 x hx y hy
    · exact Int.le_of_lt (c2 y hy x hx)
    · exact b3 x hx y hy
  · refine (Sm.app (stS_sm _) (stS_sm _)).trans ?_
    have e1 : (A ++ V) ++ (U ++ B) = A ++ ((V ++ U) ++ B) := by simp only [List.append_assoc]
    have e2 : (A ++ U) ++ (V ++ B) = A ++ ((U ++ V) ++ B) := by simp only [List.append_assoc]
    rw [e1, e2]
    exact Sm.app (Sm.refl _) (Sm.app (Sm.swap c2) (Sm.refl _))
/-- What the search has found: the pieces' cut at s and e. -/
theorem sym_found {X M1 M2 Y : List Evt} {a m b N s0 r0 s e : Nat} (ha : X.length = a) (hm : a + M1.length = m) (hb : m + M2.length = b) (h1 : Srt M1) (h2 : Srt M2) (hs0 : a ≤ s0) (hr0 : r0 ≤ m) (hss : s0 ≤ s) (hsr : s ≤ r0) (hN : s + e = N)
    (hrg : ∀ c, s0 ≤ c → c < r0 → m ≤ N - 1 - c ∧ N - 1 - c < b ∧ c + 1 ≤ N) (hS : s0 = a ∨ s0 + b = N) (hR : r0 = m ∨ r0 + m = N) (hme : m ≤ e) (heb : e ≤ b)
    (hlo : ∀ c, s0 ≤ c → c < s → kev (X ++ (M1 ++ (M2 ++ Y))) c ≤ kev (X ++ (M1 ++ (M2 ++ Y))) (N - 1 - c)) (hhi : ∀ c, s ≤ c → c < r0 → kev (X ++ (M1 ++ (M2 ++ Y))) (N - 1 - c) < kev (X ++ (M1 ++ (M2 ++ Y))) c) :
    (∀ x ∈ M1.take (s - a), ∀ y ∈ M2.drop (e - m), x.1 ≤ y.1) ∧ (∀ u ∈ M1.drop (s - a), ∀ v ∈ M2.take (e - m), v.1 < u.1) := by
  have k1 : ∀ i (h : i < M1.length), kev (X ++ (M1 ++ (M2 ++ Y))) (a + i) = M1[i].1 := fun i h => by
    unfold kev
    rw [show ((0, 0, 0, 0) : Evt) = zE from rfl, pc_1 ha (by omega) (by omega)]
    simp only [Nat.add_sub_cancel_left]
  have k2 : ∀ i (h : i < M2.length), kev (X ++ (M1 ++ (M2 ++ Y))) (m + i) = M2[i].1 := fun i h => by
    unfold kev
    rw [show ((0, 0, 0, 0) : Evt) = zE from rfl, pc_2 ha hm (by omega) (by omega)]
    simp only [Nat.add_sub_cancel_left]
  constructor
  · intro x hx y hy
    obtain ⟨i, hi, rfl⟩ := List.getElem_of_mem hx
    obtain ⟨j, hj, rfl⟩ := List.getElem_of_mem hy
    rw [List.length_take] at hi
    rw [List.length_drop] at hj
    rw [List.getElem_take, List.getElem_drop]
    rcases Nat.lt_or_ge s0 s with hlt | hge
    · have q := hlo (s - 1) (by omega) (by omega)
      obtain ⟨g1, g2, g3⟩ := hrg (s - 1) (by omega) (by omega)
      have e1 : s - 1 = a + (s - 1 - a) := by omega
      have e2 : N - 1 - (s - 1) = m + (e - m) := by omega
      rw [e2, k2 _ (by omega), e1, k1 _ (by omega)] at q
      have q1 := srt_le h1 (i := i) (j := s - 1 - a) (by omega) (by omega)
      have q2 := srt_le h2 (i := e - m) (j := e - m + j) (by omega) (by omega)
      exact Int.le_trans q1 (Int.le_trans q q2)
    · rcases hS with hS | hS
      · omega
      · omega
  · intro u hu v hv
    obtain ⟨i, hi, rfl⟩ := List.getElem_of_mem hu
    obtain ⟨j, hj, rfl⟩ := List.getElem_of_mem hv
    rw [List.length_drop] at hi
    rw [List.length_take] at hj
    rw [List.getElem_take, List.getElem_drop]
    rcases Nat.lt_or_ge s r0 with hlt | hge
    · have q := hhi s (by omega) hlt
      obtain ⟨g1, g2, g3⟩ := hrg s (by omega) hlt
      have e1 : s = a + (s - a) := by omega
      have e2 : N - 1 - s = m + (e - 1 - m) := by omega
      rw [e2, k2 _ (by omega)] at q
      have e3 : kev (X ++ (M1 ++ (M2 ++ Y))) s = M1[s - a].1 := by
        have := k1 (s - a) (by omega)
        rwa [← e1] at this
      rw [e3] at q
      have q1 := srt_le h2 (i := j) (j := e - 1 - m) (by omega) (by omega)
      have q2 := srt_le h1 (i := s - a) (j := s - a + i) (by omega) (by omega)
      exact Int.lt_of_le_of_lt q1 (Int.lt_of_lt_of_le q q2)
    · rcases hR with hR | hR
      · omega
      · omega
/-- The search's two steps. -/
theorem sym_lo {X M1 M2 Y : List Evt} {a m b N s0 c : Nat} (ha : X.length = a) (hm : a + M1.length = m) (hb : m + M2.length = b) (h1 : Srt M1) (h2 : Srt M2) (hs0 : a ≤ s0) (hc : s0 ≤ c) (hcm : c < m) (hrg : ∀ d, s0 ≤ d → d ≤ c → m ≤ N - 1 - d ∧ N - 1 - d < b ∧ d + 1 ≤ N) (h : kev (X ++ (M1 ++ (M2 ++ Y))) c ≤ kev (X ++ (M1 ++ (M2 ++ Y))) (N - 1 - c)) :
    ∀ d, s0 ≤ d → d < c + 1 → kev (X ++ (M1 ++ (M2 ++ Y))) d ≤ kev (X ++ (M1 ++ (M2 ++ Y))) (N - 1 - d) := by
  intro d hd1 hd2
  obtain ⟨g1, g2, g3⟩ := hrg d hd1 (by omega)
  obtain ⟨f1, f2, f3⟩ := hrg c hc (Nat.le_refl _)
  have k1 : ∀ i, a ≤ i → (h : i - a < M1.length) → kev (X ++ (M1 ++ (M2 ++ Y))) i = M1[i - a].1 := fun i hi h => by
    unfold kev
    rw [show ((0, 0, 0, 0) : Evt) = zE from rfl, pc_1 ha hi h]
  have k2 : ∀ i, m ≤ i → (h : i - m < M2.length) → kev (X ++ (M1 ++ (M2 ++ Y))) i = M2[i - m].1 := fun i hi h => by
    unfold kev
    rw [show ((0, 0, 0, 0) : Evt) = zE from rfl, pc_2 ha hm hi h]
  rw [k1 c (by omega) (by omega), k2 _ f1 (by omega)] at h
  rw [k1 d (by omega) (by omega), k2 _ g1 (by omega)]
  have q1 := srt_le h1 (i := d - a) (j := c - a) (by omega) (by omega)
  have q2 := srt_le h2 (i := N - 1 - c - m) (j := N - 1 - d - m) (by omega) (by omega)
  exact Int.le_trans q1 (Int.le_trans h q2)
theorem sym_hi {X M1 M2 Y : List Evt} {a m b N s0 r0 c : Nat} (ha : X.length = a) (hm : a + M1.length = m) (hb : m + M2.length = b) (h1 : Srt M1) (h2 : Srt M2) (hs0 : a ≤ s0) (hc : s0 ≤ c) (hr0 : r0 ≤ m) (hcr : c < r0) (hrg : ∀ d, s0 ≤ d → d < r0 → m ≤ N - 1 - d ∧ N - 1 - d < b ∧ d + 1 ≤ N) (h : kev (X ++ (M1 ++ (M2 ++ Y))) (N - 1 - c) < kev (X ++ (M1 ++ (M2 ++ Y))) c) :
    ∀ d, c ≤ d → d < r0 → kev (X ++ (M1 ++ (M2 ++ Y))) (N - 1 - d) < kev (X ++ (M1 ++ (M2 ++ Y))) d := by
  intro d hd1 hd2
  obtain ⟨g1, g2, g3⟩ := hrg d (by omega) hd2
  obtain ⟨f1, f2, f3⟩ := hrg c hc hcr
  have k1 : ∀ i, a ≤ i → (h : i - a < M1.length) → kev (X ++ (M1 ++ (M2 ++ Y))) i = M1[i - a].1 := fun i hi h => by
    unfold kev
    rw [show ((0, 0, 0, 0) : Evt) = zE from rfl, pc_1 ha hi h]
  have k2 : ∀ i, m ≤ i → (h : i - m < M2.length) → kev (X ++ (M1 ++ (M2 ++ Y))) i = M2[i - m].1 := fun i hi h => by
    unfold kev
    rw [show ((0, 0, 0, 0) : Evt) = zE from rfl, pc_2 ha hm hi h]
  rw [k1 c (by omega) (by omega), k2 _ f1 (by omega)] at h
  rw [k1 d (by omega) (by omega), k2 _ g1 (by omega)]
  have q1 := srt_le h1 (i := c - a) (j := d - a) (by omega) (by omega)
  have q2 := srt_le h2 (i := N - 1 - d - m) (j := N - 1 - c - m) (by omega) (by omega)
  exact Int.lt_of_le_of_lt q2 (Int.lt_of_lt_of_le h q1)

theorem rotate_at (g n c lo : Nat) (fv : Value) (X U V Y : List Evt) (a m b : Nat) (ha : X.length = a) (hu : a + U.length = m) (hv : m + V.length = b) (h0 : 0 < U.length) (h1 : 0 < V.length) (hn : n ≤ 4096) (xa xm xb : Int) (ea : xa = a) (em : xm = m) (eb : xb = b) (w : World) (h : w.ownsRow lo 33 4 (.slice (some ⟨g, 0, none⟩) n c) n (rEvent (X ++ (U ++ (V ++ Y))))) :
    Calls Try.prog 23 #[.slice (some ⟨g, 0, none⟩) n c, .int .i64 xa, .int .i64 xm, .int .i64 xb, fv] w fun e w' => e = .returned (.tuple #[]) ∧ w'.ownsRow lo 33 4 (.slice (some ⟨g, 0, none⟩) n c) n (rEvent (X ++ (V ++ (U ++ Y)))) ∧ w.grownBy w' (some g) := by
  subst ea em eb
  exact rotate_any g n c lo fv X U V Y a m b ha hu hv h0 h1 hn w h
/-- symMerge at pieces of so many events together. -/
def SymOk (g n c lo d : Nat) : Prop := ∀ (X M1 M2 Y : List Evt) (a m b : Nat), X.length = a → a + M1.length = m → m + M2.length = b → 0 < M1.length → 0 < M2.length → b - a ≤ d → Srt M1 → Srt M2 → ∀ (xa xm xb : Int), xa = a → xm = m → xb = b → ∀ w : World, w.ownsRow lo 33 4 (.slice (some ⟨g, 0, none⟩) n c) n (rEvent (X ++ (M1 ++ (M2 ++ Y)))) →
    Calls Try.prog 22 #[.slice (some ⟨g, 0, none⟩) n c, .int .i64 xa, .int .i64 xm, .int .i64 xb, .func (.func 16) #[] #[]] w fun e w' => e = .returned (.tuple #[]) ∧ w'.ownsRow lo 33 4 (.slice (some ⟨g, 0, none⟩) n c) n (rEvent (X ++ (stS (M1 ++ M2) ++ Y))) ∧ w.grownBy w' (some g)

set_option maxRecDepth 100000 in
set_option maxHeartbeats 16000000 in
theorem symMerge_step (g n c lo d : Nat) (hn : n ≤ 4096) (ih : SymOk g n c lo d) (X M1 M2 Y : List Evt) (a m b : Nat) (ha : X.length = a) (hm : a + M1.length = m) (hb : m + M2.length = b) (h1 : 2 ≤ M1.length) (h2 : 2 ≤ M2.length) (hd : b - a ≤ d + 1) (hs1 : Srt M1) (hs2 : Srt M2) (w : World) (h : w.ownsRow lo 33 4 (.slice (some ⟨g, 0, none⟩) n c) n (rEvent (X ++ (M1 ++ (M2 ++ Y))))) :
    Calls Try.prog 22 #[.slice (some ⟨g, 0, none⟩) n c, .int .i64 a, .int .i64 m, .int .i64 b, .func (.func 16) #[] #[]] w fun e w' => e = .returned (.tuple #[]) ∧ w'.ownsRow lo 33 4 (.slice (some ⟨g, 0, none⟩) n c) n (rEvent (X ++ (stS (M1 ++ M2) ++ Y))) ∧ w.grownBy w' (some g) := by
  have HL : (X ++ (M1 ++ (M2 ++ Y))).length = n := by have := h.1; rw [rEvent_length] at this; omega
  have hbn : b ≤ n := by simp at HL; omega
  have H := hide h
  have HA := hide (And.intro ha (And.intro hm (And.intro hb (And.intro hs1 hs2))))
  have hm2 : a + 2 ≤ m := by omega
  have hb2 : m + 2 ≤ b := by omega
  unfold SymOk at ih
  have IH := hide ih
  clear h HL ha hm hb hs1 hs2 h1 h2 ih
  go_enter Try.func22, Try.ntmps22
  have z0 : ((m : Int) - (a : Int) == 1) = false := by simp; omega
  have z1 : ((b : Int) - (m : Int) == 1) = false := by simp; omega
  go_upto_region 27 with fail
  obtain ⟨mid, hd1, hd2⟩ : ∃ mid : Nat, 2 * mid ≤ a + b ∧ a + b ≤ 2 * mid + 1 := ⟨(a + b) / 2, by omega, by omega⟩
  have hmi : ((a : Int) + (b : Int)) / 2 = (mid : Int) := by omega
  rw [hmi]
  clear hmi
  obtain ⟨N, hN1, hN2⟩ : ∃ N : Nat, mid + m ≤ N ∧ N ≤ mid + m := ⟨mid + m, by omega, by omega⟩
  have hNi : (mid : Int) + (m : Int) = (N : Int) := by omega
  rw [hNi]
  clear hNi
  by_cases hmm : mid < m
  · have z3 : (mid : Int) < (m : Int) := by omega
    obtain ⟨s0, hs0⟩ : ∃ s0, s0 + b = N := ⟨N - b, by omega⟩
    obtain ⟨r0, hr0⟩ : ∃ r0, r0 = mid := ⟨_, rfl⟩
    have hs0a : a ≤ s0 := by omega
    have hr0m : r0 ≤ m := by omega
    have hs0r : s0 ≤ r0 := by omega
    have HRG : Hid (∀ d, s0 ≤ d → d < r0 → m ≤ N - 1 - d ∧ N - 1 - d < b ∧ d + 1 ≤ N) := hide (by intro d h1 h2; omega)
    have HSR : Hid ((s0 = a ∨ s0 + b = N) ∧ (r0 = m ∨ r0 + m = N)) := hide ⟨.inr hs0, .inr (by omega)⟩
    have q1 : s0 + b ≤ N := by omega
    have q2 : N ≤ s0 + b := by omega
    have q3 : r0 ≤ mid := by omega
    have q4 : mid ≤ r0 := by omega
    clear hs0 hr0
    go_upto_region 33 with fail
    obtain ⟨PP, hP1, hP2⟩ : ∃ PP : Nat, PP + 1 ≤ N ∧ N ≤ PP + 1 := ⟨N - 1, by omega, by omega⟩
    have hPi : (N : Int) - 1 = (PP : Int) := by omega
    rw [hPi]
    clear hPi
    go_loopw [20, 21, 23] (fun si sj _ wr => ∃ i j : Nat, s0 ≤ i ∧ i ≤ j ∧ j ≤ r0 ∧ si = .int .i64 (i : Int) ∧ sj = .int .i64 (j : Int) ∧ Hid (∀ d, s0 ≤ d → d < i → kev (X ++ (M1 ++ (M2 ++ Y))) d ≤ kev (X ++ (M1 ++ (M2 ++ Y))) (N - 1 - d)) ∧ Hid (∀ d, j ≤ d → d < r0 → kev (X ++ (M1 ++ (M2 ++ Y))) (N - 1 - d) < kev (X ++ (M1 ++ (M2 ++ Y))) d) ∧ Hid (wr.ownsRow lo 33 4 (.slice (some ⟨g, 0, none⟩) n c) n (rEvent (X ++ (M1 ++ (M2 ++ Y))))) ∧ Hid (w.grownBy wr (some g))) (fun si sj _ _ => (intOf sj).toNat - (intOf si).toNat)
    case atStart => exact ⟨s0, r0, by omega, by omega, by omega, by first | rfl | exact vint (by omega), by first | rfl | exact vint (by omega), hide (by intro d h1 h2; omega), hide (by intro d h1 h2; omega), H, hide (gb_refl _ _)⟩
    case round =>
      clear H
      obtain ⟨i, j, hi1, hij, hjr, rfl, rfl, HLO, HHI, HO, HG⟩ := hrel
      by_cases hlt : i < j
      · have z2 : (i : Int) < (j : Int) := by omega
        go_upto_region 35 with fail
        obtain ⟨C, hC1, hC2⟩ : ∃ C : Nat, 2 * C ≤ i + j ∧ i + j ≤ 2 * C + 1 := ⟨(i + j) / 2, by omega, by omega⟩
        have hHi : ((i : Int) + (j : Int)) / 2 = (C : Int) := by omega
        rw [hHi]
        clear hHi
        obtain ⟨g1, g2, g3⟩ := HRG.out C (by omega) (by omega)
        obtain ⟨Q, hQ⟩ : ∃ Q, N - 1 - C = Q := ⟨_, rfl⟩
        have hQi : (PP : Int) - (C : Int) = (Q : Int) := by omega
        have hQw : IntKind.i64.wrap ((PP : Int) - (C : Int)) = (Q : Int) := by rw [hQi]; exact IntWalk.i64_in _ (by omega)
        have hQ8 : IntKind.i64.wrap (Q : Int) = (Q : Int) := IntWalk.i64_in _ (by omega)
        have HQ := hide hQ
        rw [hQ] at g1 g2
        clear hQ
        obtain ⟨x, hx⟩ : ∃ x, (X ++ (M1 ++ (M2 ++ Y))).getD Q zE = x := ⟨_, rfl⟩
        obtain ⟨y, hy⟩ : ∃ y, (X ++ (M1 ++ (M2 ++ Y))).getD C zE = y := ⟨_, rfl⟩
        obtain ⟨x0, x1, x2, x3⟩ := x
        obtain ⟨y0, y1, y2, y3⟩ := y
        have HKX : Hid (kev (X ++ (M1 ++ (M2 ++ Y))) (N - 1 - C) = x0) := hide (by rw [HQ.out]; unfold kev; rw [show ((0, 0, 0, 0) : Evt) = zE from rfl, hx])
        have HKY : Hid (kev (X ++ (M1 ++ (M2 ++ Y))) C = y0) := hide (by unfold kev; rw [show ((0, 0, 0, 0) : Evt) = zE from rfl, hy])
        have b1 : Q < n := by omega
        have b2 : C < n := by omega
        have b3 : (0 : Int) ≤ (Q : Int) := by omega
        have b4 : (Q : Int) < (n : Int) := by omega
        obtain ⟨c0, c1, c2, c3⟩ := se_cells HO.out (by omega) hx
        obtain ⟨d0, d1, d2, d3⟩ := se_cells HO.out (by omega) hy
        have HS8 : Hid ((fun W => W.cell? ⟨g, Q * 4, none⟩ = some (.int .i64 x0) ∧ W.cell? ⟨g, Q * 4 + 1, none⟩ = some (.int .i64 x1) ∧ W.cell? ⟨g, Q * 4 + 2, none⟩ = some (.int .i64 x2) ∧ W.cell? ⟨g, Q * 4 + 3, none⟩ = some (.int .i64 x3) ∧ W.cell? ⟨g, C * 4, none⟩ = some (.int .i64 y0) ∧ W.cell? ⟨g, C * 4 + 1, none⟩ = some (.int .i64 y1) ∧ W.cell? ⟨g, C * 4 + 2, none⟩ = some (.int .i64 y2) ∧ W.cell? ⟨g, C * 4 + 3, none⟩ = some (.int .i64 y3)) wr) := hide ⟨c0, c1, c2, c3, d0, d1, d2, d3⟩
        have hgs : g < wr.heap.size := (HO.out.lt g rfl).2
        have HCM := hide (show Calls Try.prog 16 #[.agg #[.int .i64 x0, .int .i64 x1, .int .i64 x2, .int .i64 x3], .agg #[.int .i64 y0, .int .i64 y1, .int .i64 y2, .int .i64 y3]] (World.drew wr) fun e w' => e = .returned (.int .i64 (cmpE (x0, x1, x2, x3) (y0, y1, y2, y3))) ∧ Below wr.heap.size wr w' from (compareEvents_any (x0, x1, x2, x3) (y0, y1, y2, y3) _).mono (fun e w' h => ⟨h.1, (Joins.below_draws _ _ 1 : Below wr.heap.size wr wr.drew).trans h.2⟩))
        clear c0 c1 c2 c3 d0 d1 d2 d3
        have HX := hide hx
        have HY := hide hy
        clear hx hy
        go_wp2_with fail
        go_region_held3 (fun W => W.cell? ⟨g, Q * 4, none⟩ = some (.int .i64 x0) ∧ W.cell? ⟨g, Q * 4 + 1, none⟩ = some (.int .i64 x1) ∧ W.cell? ⟨g, Q * 4 + 2, none⟩ = some (.int .i64 x2) ∧ W.cell? ⟨g, Q * 4 + 3, none⟩ = some (.int .i64 x3) ∧ W.cell? ⟨g, C * 4, none⟩ = some (.int .i64 y0) ∧ W.cell? ⟨g, C * 4 + 1, none⟩ = some (.int .i64 y1) ∧ W.cell? ⟨g, C * 4 + 2, none⟩ = some (.int .i64 y2) ∧ W.cell? ⟨g, C * 4 + 3, none⟩ = some (.int .i64 y3)) (first | exact HS8.out | exact HS9.out) (first | (go_at_call 16; (with_reducible refine HCM.out.mono ?_); rintro e w6 ⟨rfl, hb6⟩; have HO6 := hide (owns_below HO.out hb6); have HG6 := hide (gb_trans HG.out (gb_below hb6 _)); have HS9 : Hid ((fun W => W.cell? ⟨g, Q * 4, none⟩ = some (.int .i64 x0) ∧ W.cell? ⟨g, Q * 4 + 1, none⟩ = some (.int .i64 x1) ∧ W.cell? ⟨g, Q * 4 + 2, none⟩ = some (.int .i64 x2) ∧ W.cell? ⟨g, Q * 4 + 3, none⟩ = some (.int .i64 x3) ∧ W.cell? ⟨g, C * 4, none⟩ = some (.int .i64 y0) ∧ W.cell? ⟨g, C * 4 + 1, none⟩ = some (.int .i64 y1) ∧ W.cell? ⟨g, C * 4 + 2, none⟩ = some (.int .i64 y2) ∧ W.cell? ⟨g, C * 4 + 3, none⟩ = some (.int .i64 y3)) w6) := hide ⟨(hb6.cell (p := ⟨g, Q * 4, none⟩) hgs).trans HS8.out.1, (hb6.cell (p := ⟨g, Q * 4 + 1, none⟩) hgs).trans HS8.out.2.1, (hb6.cell (p := ⟨g, Q * 4 + 2, none⟩) hgs).trans HS8.out.2.2.1, (hb6.cell (p := ⟨g, Q * 4 + 3, none⟩) hgs).trans HS8.out.2.2.2.1, (hb6.cell (p := ⟨g, C * 4, none⟩) hgs).trans HS8.out.2.2.2.2.1, (hb6.cell (p := ⟨g, C * 4 + 1, none⟩) hgs).trans HS8.out.2.2.2.2.2.1, (hb6.cell (p := ⟨g, C * 4 + 2, none⟩) hgs).trans HS8.out.2.2.2.2.2.2.1, (hb6.cell (p := ⟨g, C * 4 + 3, none⟩) hgs).trans HS8.out.2.2.2.2.2.2.2⟩; clear hb6))
        rw [cmpE_lt]
        clear HO HG HS8 HCM hgs
        by_cases hc : x0 < y0
        · rw [show decide ((x0, x1, x2, x3).1 < (y0, y1, y2, y3).1) = true from decide_eq_true hc]
          have HHI2 := hide (sym_hi (Y := Y) (c := C) HA.out.1 HA.out.2.1 HA.out.2.2.1 HA.out.2.2.2.1 HA.out.2.2.2.2 hs0a (by omega) hr0m (by omega) HRG.out (by rw [HKX.out, HKY.out]; exact hc))
          clear hc HHI
          go_wp2_with fail
          go_roundw
          case rel => exact ⟨i, C, by omega, by omega, by omega, rfl, by go_num, HLO, HHI2, HO6, HG6⟩
          case measure => simp [intOf]; omega
        · rw [show decide ((x0, x1, x2, x3).1 < (y0, y1, y2, y3).1) = false from decide_eq_false hc]
          have HLO2 := hide (sym_lo (Y := Y) HA.out.1 HA.out.2.1 HA.out.2.2.1 HA.out.2.2.2.1 HA.out.2.2.2.2 hs0a (c := C) (by omega) (by omega) (fun d h1 h2 => HRG.out d h1 (by omega)) (by rw [HKX.out, HKY.out]; have hc' : ¬ x0 < y0 := hc; omega))
          clear hc HLO
          go_wp2_with fail
          go_roundw
          case rel => exact ⟨C + 1, j, by omega, by omega, by omega, by go_num, rfl, HLO2, HHI, HO6, HG6⟩
          case measure => simp [intOf]; omega
      · have z2 : ¬ (i : Int) < (j : Int) := by omega
        obtain ⟨e, he⟩ : ∃ e, i + e = N := ⟨N - i, by omega⟩
        obtain rfl : i = j := by omega
        have hme : m ≤ e := by omega
        have heb : e ≤ b := by omega
        have hfd := sym_found HA.out.1 HA.out.2.1 HA.out.2.2.1 HA.out.2.2.2.1 HA.out.2.2.2.2 hs0a hr0m hi1 hjr he HRG.out HSR.out.1 HSR.out.2 hme heb HLO.out HHI.out
        have HCUT : Hid (stS ((M1.take (i - a)) ++ (M2.take (e - m))) ++ stS ((M1.drop (i - a)) ++ (M2.drop (e - m))) = stS (M1 ++ M2)) := hide (by
          have := sym_cut (A := (M1.take (i - a))) (U := (M1.drop (i - a))) (V := (M2.take (e - m))) (B := (M2.drop (e - m))) (by rw [List.take_append_drop]; exact HA.out.2.2.2.1) (by rw [List.take_append_drop]; exact HA.out.2.2.2.2) hfd.1 hfd.2
          rw [List.take_append_drop, List.take_append_drop] at this
          exact this)
        have HE1 : Hid (M1 = (M1.take (i - a)) ++ (M1.drop (i - a))) := hide (List.take_append_drop _ _).symm
        have HE2 : Hid (M2 = (M2.take (e - m)) ++ (M2.drop (e - m))) := hide (List.take_append_drop _ _).symm
        have hl1 : ((M1.take (i - a))).length = i - a := by rw [List.length_take]; have := HA.out.2.1; omega
        have hl2 : ((M1.drop (i - a))).length = m - i := by rw [List.length_drop]; have := HA.out.2.1; omega
        have hl3 : ((M2.take (e - m))).length = e - m := by rw [List.length_take]; have := HA.out.2.2.1; omega
        have hl4 : ((M2.drop (e - m))).length = b - e := by rw [List.length_drop]; have := HA.out.2.2.1; omega
        have hs1 : Srt (M1.take (i - a)) := HA.out.2.2.2.1.sublist (List.take_sublist _ _)
        have hs2 : Srt (M1.drop (i - a)) := HA.out.2.2.2.1.sublist (List.drop_sublist _ _)
        have hs3 : Srt (M2.take (e - m)) := HA.out.2.2.2.2.sublist (List.take_sublist _ _)
        have hs4 : Srt (M2.drop (e - m)) := HA.out.2.2.2.2.sublist (List.drop_sublist _ _)
        have hO := HO.out
        rw [HE1.out, HE2.out] at hO
        obtain ⟨A1, hA1⟩ : ∃ z, (M1.take (i - a)) = z := ⟨_, rfl⟩
        obtain ⟨U, hU⟩ : ∃ z, (M1.drop (i - a)) = z := ⟨_, rfl⟩
        obtain ⟨V, hV⟩ : ∃ z, (M2.take (e - m)) = z := ⟨_, rfl⟩
        obtain ⟨B2, hB2⟩ : ∃ z, (M2.drop (e - m)) = z := ⟨_, rfl⟩
        rw [hA1, hU, hV, hB2] at hO HCUT
        rw [hA1] at hl1 hs1
        rw [hU] at hl2 hs2
        rw [hV] at hl3 hs3
        rw [hB2] at hl4 hs4
        have HO1 := hide (show wr.ownsRow lo 33 4 (.slice (some ⟨g, 0, none⟩) n c) n (rEvent (X ++ (A1 ++ (U ++ (V ++ (B2 ++ Y)))))) by simpa only [List.append_assoc] using hO)
        have HLL := hide (And.intro hl1 (And.intro hl2 (And.intro hl3 hl4)))
        have HSS := hide (And.intro hs1 (And.intro hs2 (And.intro hs3 hs4)))
        have HXL := hide HA.out.1
        clear hA1 hU hV hB2 hl1 hl2 hl3 hl4 hs1 hs2 hs3 hs4 hO HO HE1 HE2 HLO HHI hfd HA
        have he1 : (N : Int) - (i : Int) = (e : Int) := by omega
        generalize wr = w5 at *
        go_upto_region 39 with fail
        try rw [he1]
        clear he1
        by_cases h1 : i < m
        · by_cases h2 : m < e
          · have z5 : decide ((m : Int) < (e : Int)) = true := by simp; omega
            have z6 : (i : Int) < (m : Int) := by omega
            go_wp2_with fail
            with_reducible refine (rotate_at g n c lo _ (X ++ A1) U V (B2 ++ Y) i m e (by rw [List.length_append, HXL.out, HLL.out.1]; omega) (by rw [HLL.out.2.1]; omega) (by rw [HLL.out.2.2.1]; omega) (by rw [HLL.out.2.1]; omega) (by rw [HLL.out.2.2.1]; omega) hn _ _ _ (by omega) (by omega) (by omega) _ (by have q := HO1.out; simpa only [List.append_assoc] using q)).mono ?_
            rintro e' w7 ⟨rfl, ho7, hg7⟩
            have HO2 := hide (show w7.ownsRow lo 33 4 (.slice (some ⟨g, 0, none⟩) n c) n (rEvent (X ++ (A1 ++ (V ++ (U ++ (B2 ++ Y)))))) by simpa only [List.append_assoc] using ho7)
            have HG2 := hide (gb_trans HG.out hg7)
            clear ho7 hg7
            go_upto_region 41 with fail
            by_cases h3 : a < i
            · by_cases h4 : i < mid
              · have z5 : decide ((i : Int) < (mid : Int)) = true := by simp; omega
                have z6 : (a : Int) < (i : Int) := by omega
                go_wp2_with fail
                with_reducible refine (IH.out X A1 V (U ++ (B2 ++ Y)) a i mid HXL.out (by rw [HLL.out.1]; omega) (by rw [HLL.out.2.2.1]; omega) (by rw [HLL.out.1]; omega) (by rw [HLL.out.2.2.1]; omega) (by omega) HSS.out.1 HSS.out.2.2.1 _ _ _ (by omega) (by omega) (by omega) _ HO2.out).mono ?_
                rintro e' w8 ⟨rfl, ho8, hg8⟩
                have HO3 := hide ho8
                have HG3 := hide (gb_trans HG2.out hg8)
                clear ho8 hg8
                go_upto_region 43 with fail
                by_cases h5 : mid < e
                · by_cases h6 : e < b
                  · have z5 : decide ((e : Int) < (b : Int)) = true := by simp; omega
                    have z6 : (mid : Int) < (e : Int) := by omega
                    go_wp2_with fail
                    with_reducible refine (IH.out (X ++ stS (A1 ++ V)) U B2 Y mid e b (by rw [List.length_append, stS_len, List.length_append, HXL.out, HLL.out.1, HLL.out.2.2.1]; omega) (by rw [HLL.out.2.1]; omega) (by rw [HLL.out.2.2.2]; omega) (by rw [HLL.out.2.1]; omega) (by rw [HLL.out.2.2.2]; omega) (by omega) HSS.out.2.1 HSS.out.2.2.2 _ _ _ (by omega) (by omega) (by omega) _ (by have q := HO3.out; simpa only [List.append_assoc] using q)).mono ?_
                    rintro e' w9 ⟨rfl, ho9, hg9⟩
                    have HS := hide (show w9.ownsRow lo 33 4 (.slice (some ⟨g, 0, none⟩) n c) n (rEvent (X ++ (stS (M1 ++ M2) ++ Y))) by rw [← HCUT.out]; simpa only [List.append_assoc] using ho9)
                    have HG9 := hide (gb_trans HG3.out hg9)
                    clear ho9 hg9
                    go_wp2_with fail
                    go_end0
                    exact ⟨rfl, HS.out, HG9.out⟩
                  · have z6 : (mid : Int) < (e : Int) := by omega
                    have z5 : ¬ (e : Int) < (b : Int) := by omega
                    have HS := hide (show w8.ownsRow lo 33 4 (.slice (some ⟨g, 0, none⟩) n c) n (rEvent (X ++ (stS (M1 ++ M2) ++ Y))) by
                      have hub : stS (U ++ B2) = U ++ B2 := stS_id (by
                        rcases Nat.lt_or_ge mid e with h1 | h1
                        · have : B2 = [] := List.eq_nil_of_length_eq_zero (by rw [HLL.out.2.2.2]; omega)
                          rw [this, List.append_nil]; exact HSS.out.2.1
                        · have : U = [] := List.eq_nil_of_length_eq_zero (by rw [HLL.out.2.1]; omega)
                          rw [this]; exact HSS.out.2.2.2)
                      rw [← HCUT.out, hub]
                      simpa only [List.append_assoc] using HO3.out)
                    go_wp2_with fail
                    go_end0
                    exact ⟨rfl, HS.out, HG3.out⟩
                · have z6 : ¬ (mid : Int) < (e : Int) := by omega
                  have HS := hide (show w8.ownsRow lo 33 4 (.slice (some ⟨g, 0, none⟩) n c) n (rEvent (X ++ (stS (M1 ++ M2) ++ Y))) by
                    have hub : stS (U ++ B2) = U ++ B2 := stS_id (by
                      rcases Nat.lt_or_ge mid e with h1 | h1
                      · have : B2 = [] := List.eq_nil_of_length_eq_zero (by rw [HLL.out.2.2.2]; omega)
                        rw [this, List.append_nil]; exact HSS.out.2.1
                      · have : U = [] := List.eq_nil_of_length_eq_zero (by rw [HLL.out.2.1]; omega)
                        rw [this]; exact HSS.out.2.2.2)
                    rw [← HCUT.out, hub]
                    simpa only [List.append_assoc] using HO3.out)
                  go_wp2_with fail
                  go_end0
                  exact ⟨rfl, HS.out, HG3.out⟩
              · have z6 : (a : Int) < (i : Int) := by omega
                have z5 : ¬ (i : Int) < (mid : Int) := by omega
                have HO3 := hide (show w7.ownsRow lo 33 4 (.slice (some ⟨g, 0, none⟩) n c) n (rEvent (X ++ (stS (A1 ++ V) ++ (U ++ (B2 ++ Y))))) by
                  have hav : stS (A1 ++ V) = A1 ++ V := stS_id (by
                    rcases Nat.lt_or_ge a i with h1 | h1
                    · have : V = [] := List.eq_nil_of_length_eq_zero (by rw [HLL.out.2.2.1]; omega)
                      rw [this, List.append_nil]; exact HSS.out.1
                    · have : A1 = [] := List.eq_nil_of_length_eq_zero (by rw [HLL.out.1]; omega)
                      rw [this]; exact HSS.out.2.2.1)
                  rw [hav]
                  simpa only [List.append_assoc] using HO2.out)
                have HG3 := HG2
                clear HG2 HO2
                go_upto_region 43 with fail
                by_cases h5 : mid < e
                · by_cases h6 : e < b
                  · have z5 : decide ((e : Int) < (b : Int)) = true := by simp; omega
                    have z6 : (mid : Int) < (e : Int) := by omega
                    go_wp2_with fail
                    with_reducible refine (IH.out (X ++ stS (A1 ++ V)) U B2 Y mid e b (by rw [List.length_append, stS_len, List.length_append, HXL.out, HLL.out.1, HLL.out.2.2.1]; omega) (by rw [HLL.out.2.1]; omega) (by rw [HLL.out.2.2.2]; omega) (by rw [HLL.out.2.1]; omega) (by rw [HLL.out.2.2.2]; omega) (by omega) HSS.out.2.1 HSS.out.2.2.2 _ _ _ (by omega) (by omega) (by omega) _ (by have q := HO3.out; simpa only [List.append_assoc] using q)).mono ?_
                    rintro e' w9 ⟨rfl, ho9, hg9⟩
                    have HS := hide (show w9.ownsRow lo 33 4 (.slice (some ⟨g, 0, none⟩) n c) n (rEvent (X ++ (stS (M1 ++ M2) ++ Y))) by rw [← HCUT.out]; simpa only [List.append_assoc] using ho9)
                    have HG9 := hide (gb_trans HG3.out hg9)
                    clear ho9 hg9
                    go_wp2_with fail
                    go_end0
                    exact ⟨rfl, HS.out, HG9.out⟩
                  · have z6 : (mid : Int) < (e : Int) := by omega
                    have z5 : ¬ (e : Int) < (b : Int) := by omega
                    have HS := hide (show w7.ownsRow lo 33 4 (.slice (some ⟨g, 0, none⟩) n c) n (rEvent (X ++ (stS (M1 ++ M2) ++ Y))) by
                      have hub : stS (U ++ B2) = U ++ B2 := stS_id (by
                        rcases Nat.lt_or_ge mid e with h1 | h1
                        · have : B2 = [] := List.eq_nil_of_length_eq_zero (by rw [HLL.out.2.2.2]; omega)
                          rw [this, List.append_nil]; exact HSS.out.2.1
                        · have : U = [] := List.eq_nil_of_length_eq_zero (by rw [HLL.out.2.1]; omega)
                          rw [this]; exact HSS.out.2.2.2)
                      rw [← HCUT.out, hub]
                      simpa only [List.append_assoc] using HO3.out)
                    go_wp2_with fail
                    go_end0
                    exact ⟨rfl, HS.out, HG3.out⟩
                · have z6 : ¬ (mid : Int) < (e : Int) := by omega
                  have HS := hide (show w7.ownsRow lo 33 4 (.slice (some ⟨g, 0, none⟩) n c) n (rEvent (X ++ (stS (M1 ++ M2) ++ Y))) by
                    have hub : stS (U ++ B2) = U ++ B2 := stS_id (by
                      rcases Nat.lt_or_ge mid e with h1 | h1
                      · have : B2 = [] := List.eq_nil_of_length_eq_zero (by rw [HLL.out.2.2.2]; omega)
                        rw [this, List.append_nil]; exact HSS.out.2.1
                      · have : U = [] := List.eq_nil_of_length_eq_zero (by rw [HLL.out.2.1]; omega)
                        rw [this]; exact HSS.out.2.2.2)
                    rw [← HCUT.out, hub]
                    simpa only [List.append_assoc] using HO3.out)
                  go_wp2_with fail
                  go_end0
                  exact ⟨rfl, HS.out, HG3.out⟩
            · have z6 : ¬ (a : Int) < (i : Int) := by omega
              have HO3 := hide (show w7.ownsRow lo 33 4 (.slice (some ⟨g, 0, none⟩) n c) n (rEvent (X ++ (stS (A1 ++ V) ++ (U ++ (B2 ++ Y))))) by
                have hav : stS (A1 ++ V) = A1 ++ V := stS_id (by
                  rcases Nat.lt_or_ge a i with h1 | h1
                  · have : V = [] := List.eq_nil_of_length_eq_zero (by rw [HLL.out.2.2.1]; omega)
                    rw [this, List.append_nil]; exact HSS.out.1
                  · have : A1 = [] := List.eq_nil_of_length_eq_zero (by rw [HLL.out.1]; omega)
                    rw [this]; exact HSS.out.2.2.1)
                rw [hav]
                simpa only [List.append_assoc] using HO2.out)
              have HG3 := HG2
              clear HG2 HO2
              go_upto_region 43 with fail
              by_cases h5 : mid < e
              · by_cases h6 : e < b
                · have z5 : decide ((e : Int) < (b : Int)) = true := by simp; omega
                  have z6 : (mid : Int) < (e : Int) := by omega
                  go_wp2_with fail
                  with_reducible refine (IH.out (X ++ stS (A1 ++ V)) U B2 Y mid e b (by rw [List.length_append, stS_len, List.length_append, HXL.out, HLL.out.1, HLL.out.2.2.1]; omega) (by rw [HLL.out.2.1]; omega) (by rw [HLL.out.2.2.2]; omega) (by rw [HLL.out.2.1]; omega) (by rw [HLL.out.2.2.2]; omega) (by omega) HSS.out.2.1 HSS.out.2.2.2 _ _ _ (by omega) (by omega) (by omega) _ (by have q := HO3.out; simpa only [List.append_assoc] using q)).mono ?_
                  rintro e' w9 ⟨rfl, ho9, hg9⟩
                  have HS := hide (show w9.ownsRow lo 33 4 (.slice (some ⟨g, 0, none⟩) n c) n (rEvent (X ++ (stS (M1 ++ M2) ++ Y))) by rw [← HCUT.out]; simpa only [List.append_assoc] using ho9)
                  have HG9 := hide (gb_trans HG3.out hg9)
                  clear ho9 hg9
                  go_wp2_with fail
                  go_end0
                  exact ⟨rfl, HS.out, HG9.out⟩
                · have z6 : (mid : Int) < (e : Int) := by omega
                  have z5 : ¬ (e : Int) < (b : Int) := by omega
                  have HS := hide (show w7.ownsRow lo 33 4 (.slice (some ⟨g, 0, none⟩) n c) n (rEvent (X ++ (stS (M1 ++ M2) ++ Y))) by
                    have hub : stS (U ++ B2) = U ++ B2 := stS_id (by
                      rcases Nat.lt_or_ge mid e with h1 | h1
                      · have : B2 = [] := List.eq_nil_of_length_eq_zero (by rw [HLL.out.2.2.2]; omega)
                        rw [this, List.append_nil]; exact HSS.out.2.1
                      · have : U = [] := List.eq_nil_of_length_eq_zero (by rw [HLL.out.2.1]; omega)
                        rw [this]; exact HSS.out.2.2.2)
                    rw [← HCUT.out, hub]
                    simpa only [List.append_assoc] using HO3.out)
                  go_wp2_with fail
                  go_end0
                  exact ⟨rfl, HS.out, HG3.out⟩
              · have z6 : ¬ (mid : Int) < (e : Int) := by omega
                have HS := hide (show w7.ownsRow lo 33 4 (.slice (some ⟨g, 0, none⟩) n c) n (rEvent (X ++ (stS (M1 ++ M2) ++ Y))) by
                  have hub : stS (U ++ B2) = U ++ B2 := stS_id (by
                    rcases Nat.lt_or_ge mid e with h1 | h1
                    · have : B2 = [] := List.eq_nil_of_length_eq_zero (by rw [HLL.out.2.2.2]; omega)
                      rw [this, List.append_nil]; exact HSS.out.2.1
                    · have : U = [] := List.eq_nil_of_length_eq_zero (by rw [HLL.out.2.1]; omega)
                      rw [this]; exact HSS.out.2.2.2)
                  rw [← HCUT.out, hub]
                  simpa only [List.append_assoc] using HO3.out)
                go_wp2_with fail
                go_end0
                exact ⟨rfl, HS.out, HG3.out⟩
          · have z6 : (i : Int) < (m : Int) := by omega
            have z5 : ¬ (m : Int) < (e : Int) := by omega
            have HO2 := hide (show w5.ownsRow lo 33 4 (.slice (some ⟨g, 0, none⟩) n c) n (rEvent (X ++ (A1 ++ (V ++ (U ++ (B2 ++ Y)))))) by
              have huv : V ++ (U ++ (B2 ++ Y)) = U ++ (V ++ (B2 ++ Y)) := by
                rcases Nat.lt_or_ge i m with h1 | h1
                · have : V = [] := List.eq_nil_of_length_eq_zero (by rw [HLL.out.2.2.1]; omega)
                  rw [this]; rfl
                · have : U = [] := List.eq_nil_of_length_eq_zero (by rw [HLL.out.2.1]; omega)
                  rw [this]; rfl
              rw [huv]
              exact HO1.out)
            have HG2 := HG
            clear HG HO1
            go_upto_region 41 with fail
            by_cases h3 : a < i
            · by_cases h4 : i < mid
              · have z5 : decide ((i : Int) < (mid : Int)) = true := by simp; omega
                have z6 : (a : Int) < (i : Int) := by omega
                go_wp2_with fail
                with_reducible refine (IH.out X A1 V (U ++ (B2 ++ Y)) a i mid HXL.out (by rw [HLL.out.1]; omega) (by rw [HLL.out.2.2.1]; omega) (by rw [HLL.out.1]; omega) (by rw [HLL.out.2.2.1]; omega) (by omega) HSS.out.1 HSS.out.2.2.1 _ _ _ (by omega) (by omega) (by omega) _ HO2.out).mono ?_
                rintro e' w8 ⟨rfl, ho8, hg8⟩
                have HO3 := hide ho8
                have HG3 := hide (gb_trans HG2.out hg8)
                clear ho8 hg8
                go_upto_region 43 with fail
                by_cases h5 : mid < e
                · by_cases h6 : e < b
                  · have z5 : decide ((e : Int) < (b : Int)) = true := by simp; omega
                    have z6 : (mid : Int) < (e : Int) := by omega
                    go_wp2_with fail
                    with_reducible refine (IH.out (X ++ stS (A1 ++ V)) U B2 Y mid e b (by rw [List.length_append, stS_len, List.length_append, HXL.out, HLL.out.1, HLL.out.2.2.1]; omega) (by rw [HLL.out.2.1]; omega) (by rw [HLL.out.2.2.2]; omega) (by rw [HLL.out.2.1]; omega) (by rw [HLL.out.2.2.2]; omega) (by omega) HSS.out.2.1 HSS.out.2.2.2 _ _ _ (by omega) (by omega) (by omega) _ (by have q := HO3.out; simpa only [List.append_assoc] using q)).mono ?_
                    rintro e' w9 ⟨rfl, ho9, hg9⟩
                    have HS := hide (show w9.ownsRow lo 33 4 (.slice (some ⟨g, 0, none⟩) n c) n (rEvent (X ++ (stS (M1 ++ M2) ++ Y))) by rw [← HCUT.out]; simpa only [List.append_assoc] using ho9)
                    have HG9 := hide (gb_trans HG3.out hg9)
                    clear ho9 hg9
                    go_wp2_with fail
                    go_end0
                    exact ⟨rfl, HS.out, HG9.out⟩
                  · have z6 : (mid : Int) < (e : Int) := by omega
                    have z5 : ¬ (e : Int) < (b : Int) := by omega
                    have HS := hide (show w8.ownsRow lo 33 4 (.slice (some ⟨g, 0, none⟩) n c) n (rEvent (X ++ (stS (M1 ++ M2) ++ Y))) by
                      have hub : stS (U ++ B2) = U ++ B2 := stS_id (by
                        rcases Nat.lt_or_ge mid e with h1 | h1
                        · have : B2 = [] := List.eq_nil_of_length_eq_zero (by rw [HLL.out.2.2.2]; omega)
                          rw [this, List.append_nil]; exact HSS.out.2.1
                        · have : U = [] := List.eq_nil_of_length_eq_zero (by rw [HLL.out.2.1]; omega)
                          rw [this]; exact HSS.out.2.2.2)
                      rw [← HCUT.out, hub]
                      simpa only [List.append_assoc] using HO3.out)
                    go_wp2_with fail
                    go_end0
                    exact ⟨rfl, HS.out, HG3.out⟩
                · have z6 : ¬ (mid : Int) < (e : Int) := by omega
                  have HS := hide (show w8.ownsRow lo 33 4 (.slice (some ⟨g, 0, none⟩) n c) n (rEvent (X ++ (stS (M1 ++ M2) ++ Y))) by
                    have hub : stS (U ++ B2) = U ++ B2 := stS_id (by
                      rcases Nat.lt_or_ge mid e with h1 | h1
                      · have : B2 = [] := List.eq_nil_of_length_eq_zero (by rw [HLL.out.2.2.2]; omega)
                        rw [this, List.append_nil]; exact HSS.out.2.1
                      · have : U = [] := List.eq_nil_of_length_eq_zero (by rw [HLL.out.2.1]; omega)
                        rw [this]; exact HSS.out.2.2.2)
                    rw [← HCUT.out, hub]
                    simpa only [List.append_assoc] using HO3.out)
                  go_wp2_with fail
                  go_end0
                  exact ⟨rfl, HS.out, HG3.out⟩
              · have z6 : (a : Int) < (i : Int) := by omega
                have z5 : ¬ (i : Int) < (mid : Int) := by omega
                have HO3 := hide (show w5.ownsRow lo 33 4 (.slice (some ⟨g, 0, none⟩) n c) n (rEvent (X ++ (stS (A1 ++ V) ++ (U ++ (B2 ++ Y))))) by
                  have hav : stS (A1 ++ V) = A1 ++ V := stS_id (by
                    rcases Nat.lt_or_ge a i with h1 | h1
                    · have : V = [] := List.eq_nil_of_length_eq_zero (by rw [HLL.out.2.2.1]; omega)
                      rw [this, List.append_nil]; exact HSS.out.1
                    · have : A1 = [] := List.eq_nil_of_length_eq_zero (by rw [HLL.out.1]; omega)
                      rw [this]; exact HSS.out.2.2.1)
                  rw [hav]
                  simpa only [List.append_assoc] using HO2.out)
                have HG3 := HG2
                clear HG2 HO2
                go_upto_region 43 with fail
                by_cases h5 : mid < e
                · by_cases h6 : e < b
                  · have z5 : decide ((e : Int) < (b : Int)) = true := by simp; omega
                    have z6 : (mid : Int) < (e : Int) := by omega
                    go_wp2_with fail
                    with_reducible refine (IH.out (X ++ stS (A1 ++ V)) U B2 Y mid e b (by rw [List.length_append, stS_len, List.length_append, HXL.out, HLL.out.1, HLL.out.2.2.1]; omega) (by rw [HLL.out.2.1]; omega) (by rw [HLL.out.2.2.2]; omega) (by rw [HLL.out.2.1]; omega) (by rw [HLL.out.2.2.2]; omega) (by omega) HSS.out.2.1 HSS.out.2.2.2 _ _ _ (by omega) (by omega) (by omega) _ (by have q := HO3.out; simpa only [List.append_assoc] using q)).mono ?_
                    rintro e' w9 ⟨rfl, ho9, hg9⟩
                    have HS := hide (show w9.ownsRow lo 33 4 (.slice (some ⟨g, 0, none⟩) n c) n (rEvent (X ++ (stS (M1 ++ M2) ++ Y))) by rw [← HCUT.out]; simpa only [List.append_assoc] using ho9)
                    have HG9 := hide (gb_trans HG3.out hg9)
                    clear ho9 hg9
                    go_wp2_with fail
                    go_end0
                    exact ⟨rfl, HS.out, HG9.out⟩
                  · have z6 : (mid : Int) < (e : Int) := by omega
                    have z5 : ¬ (e : Int) < (b : Int) := by omega
                    have HS := hide (show w5.ownsRow lo 33 4 (.slice (some ⟨g, 0, none⟩) n c) n (rEvent (X ++ (stS (M1 ++ M2) ++ Y))) by
                      have hub : stS (U ++ B2) = U ++ B2 := stS_id (by
                        rcases Nat.lt_or_ge mid e with h1 | h1
                        · have : B2 = [] := List.eq_nil_of_length_eq_zero (by rw [HLL.out.2.2.2]; omega)
                          rw [this, List.append_nil]; exact HSS.out.2.1
                        · have : U = [] := List.eq_nil_of_length_eq_zero (by rw [HLL.out.2.1]; omega)
                          rw [this]; exact HSS.out.2.2.2)
                      rw [← HCUT.out, hub]
                      simpa only [List.append_assoc] using HO3.out)
                    go_wp2_with fail
                    go_end0
                    exact ⟨rfl, HS.out, HG3.out⟩
                · have z6 : ¬ (mid : Int) < (e : Int) := by omega
                  have HS := hide (show w5.ownsRow lo 33 4 (.slice (some ⟨g, 0, none⟩) n c) n (rEvent (X ++ (stS (M1 ++ M2) ++ Y))) by
                    have hub : stS (U ++ B2) = U ++ B2 := stS_id (by
                      rcases Nat.lt_or_ge mid e with h1 | h1
                      · have : B2 = [] := List.eq_nil_of_length_eq_zero (by rw [HLL.out.2.2.2]; omega)
                        rw [this, List.append_nil]; exact HSS.out.2.1
                      · have : U = [] := List.eq_nil_of_length_eq_zero (by rw [HLL.out.2.1]; omega)
                        rw [this]; exact HSS.out.2.2.2)
                    rw [← HCUT.out, hub]
                    simpa only [List.append_assoc] using HO3.out)
                  go_wp2_with fail
                  go_end0
                  exact ⟨rfl, HS.out, HG3.out⟩
            · have z6 : ¬ (a : Int) < (i : Int) := by omega
              have HO3 := hide (show w5.ownsRow lo 33 4 (.slice (some ⟨g, 0, none⟩) n c) n (rEvent (X ++ (stS (A1 ++ V) ++ (U ++ (B2 ++ Y))))) by
                have hav : stS (A1 ++ V) = A1 ++ V := stS_id (by
                  rcases Nat.lt_or_ge a i with h1 | h1
                  · have : V = [] := List.eq_nil_of_length_eq_zero (by rw [HLL.out.2.2.1]; omega)
                    rw [this, List.append_nil]; exact HSS.out.1
                  · have : A1 = [] := List.eq_nil_of_length_eq_zero (by rw [HLL.out.1]; omega)
                    rw [this]; exact HSS.out.2.2.1)
                rw [hav]
                simpa only [List.append_assoc] using HO2.out)
              have HG3 := HG2
              clear HG2 HO2
              go_upto_region 43 with fail
              by_cases h5 : mid < e
              · by_cases h6 : e < b
                · have z5 : decide ((e : Int) < (b : Int)) = true := by simp; omega
                  have z6 : (mid : Int) < (e : Int) := by omega
                  go_wp2_with fail
                  with_reducible refine (IH.out (X ++ stS (A1 ++ V)) U B2 Y mid e b (by rw [List.length_append, stS_len, List.length_append, HXL.out, HLL.out.1, HLL.out.2.2.1]; omega) (by rw [HLL.out.2.1]; omega) (by rw [HLL.out.2.2.2]; omega) (by rw [HLL.out.2.1]; omega) (by rw [HLL.out.2.2.2]; omega) (by omega) HSS.out.2.1 HSS.out.2.2.2 _ _ _ (by omega) (by omega) (by omega) _ (by have q := HO3.out; simpa only [List.append_assoc] using q)).mono ?_
                  rintro e' w9 ⟨rfl, ho9, hg9⟩
                  have HS := hide (show w9.ownsRow lo 33 4 (.slice (some ⟨g, 0, none⟩) n c) n (rEvent (X ++ (stS (M1 ++ M2) ++ Y))) by rw [← HCUT.out]; simpa only [List.append_assoc] using ho9)
                  have HG9 := hide (gb_trans HG3.out hg9)
                  clear ho9 hg9
                  go_wp2_with fail
                  go_end0
                  exact ⟨rfl, HS.out, HG9.out⟩
                · have z6 : (mid : Int) < (e : Int) := by omega
                  have z5 : ¬ (e : Int) < (b : Int) := by omega
                  have HS := hide (show w5.ownsRow lo 33 4 (.slice (some ⟨g, 0, none⟩) n c) n (rEvent (X ++ (stS (M1 ++ M2) ++ Y))) by
                    have hub : stS (U ++ B2) = U ++ B2 := stS_id (by
                      rcases Nat.lt_or_ge mid e with h1 | h1
                      · have : B2 = [] := List.eq_nil_of_length_eq_zero (by rw [HLL.out.2.2.2]; omega)
                        rw [this, List.append_nil]; exact HSS.out.2.1
                      · have : U = [] := List.eq_nil_of_length_eq_zero (by rw [HLL.out.2.1]; omega)
                        rw [this]; exact HSS.out.2.2.2)
                    rw [← HCUT.out, hub]
                    simpa only [List.append_assoc] using HO3.out)
                  go_wp2_with fail
                  go_end0
                  exact ⟨rfl, HS.out, HG3.out⟩
              · have z6 : ¬ (mid : Int) < (e : Int) := by omega
                have HS := hide (show w5.ownsRow lo 33 4 (.slice (some ⟨g, 0, none⟩) n c) n (rEvent (X ++ (stS (M1 ++ M2) ++ Y))) by
                  have hub : stS (U ++ B2) = U ++ B2 := stS_id (by
                    rcases Nat.lt_or_ge mid e with h1 | h1
                    · have : B2 = [] := List.eq_nil_of_length_eq_zero (by rw [HLL.out.2.2.2]; omega)
                      rw [this, List.append_nil]; exact HSS.out.2.1
                    · have : U = [] := List.eq_nil_of_length_eq_zero (by rw [HLL.out.2.1]; omega)
                      rw [this]; exact HSS.out.2.2.2)
                  rw [← HCUT.out, hub]
                  simpa only [List.append_assoc] using HO3.out)
                go_wp2_with fail
                go_end0
                exact ⟨rfl, HS.out, HG3.out⟩
        · have z6 : ¬ (i : Int) < (m : Int) := by omega
          have HO2 := hide (show w5.ownsRow lo 33 4 (.slice (some ⟨g, 0, none⟩) n c) n (rEvent (X ++ (A1 ++ (V ++ (U ++ (B2 ++ Y)))))) by
            have huv : V ++ (U ++ (B2 ++ Y)) = U ++ (V ++ (B2 ++ Y)) := by
              rcases Nat.lt_or_ge i m with h1 | h1
              · have : V = [] := List.eq_nil_of_length_eq_zero (by rw [HLL.out.2.2.1]; omega)
                rw [this]; rfl
              · have : U = [] := List.eq_nil_of_length_eq_zero (by rw [HLL.out.2.1]; omega)
                rw [this]; rfl
            rw [huv]
            exact HO1.out)
          have HG2 := HG
          clear HG HO1
          go_upto_region 41 with fail
          by_cases h3 : a < i
          · by_cases h4 : i < mid
            · have z5 : decide ((i : Int) < (mid : Int)) = true := by simp; omega
              have z6 : (a : Int) < (i : Int) := by omega
              go_wp2_with fail
              with_reducible refine (IH.out X A1 V (U ++ (B2 ++ Y)) a i mid HXL.out (by rw [HLL.out.1]; omega) (by rw [HLL.out.2.2.1]; omega) (by rw [HLL.out.1]; omega) (by rw [HLL.out.2.2.1]; omega) (by omega) HSS.out.1 HSS.out.2.2.1 _ _ _ (by omega) (by omega) (by omega) _ HO2.out).mono ?_
              rintro e' w8 ⟨rfl, ho8, hg8⟩
              have HO3 := hide ho8
              have HG3 := hide (gb_trans HG2.out hg8)
              clear ho8 hg8
              go_upto_region 43 with fail
              by_cases h5 : mid < e
              · by_cases h6 : e < b
                · have z5 : decide ((e : Int) < (b : Int)) = true := by simp; omega
                  have z6 : (mid : Int) < (e : Int) := by omega
                  go_wp2_with fail
                  with_reducible refine (IH.out (X ++ stS (A1 ++ V)) U B2 Y mid e b (by rw [List.length_append, stS_len, List.length_append, HXL.out, HLL.out.1, HLL.out.2.2.1]; omega) (by rw [HLL.out.2.1]; omega) (by rw [HLL.out.2.2.2]; omega) (by rw [HLL.out.2.1]; omega) (by rw [HLL.out.2.2.2]; omega) (by omega) HSS.out.2.1 HSS.out.2.2.2 _ _ _ (by omega) (by omega) (by omega) _ (by have q := HO3.out; simpa only [List.append_assoc] using q)).mono ?_
                  rintro e' w9 ⟨rfl, ho9, hg9⟩
                  have HS := hide (show w9.ownsRow lo 33 4 (.slice (some ⟨g, 0, none⟩) n c) n (rEvent (X ++ (stS (M1 ++ M2) ++ Y))) by rw [← HCUT.out]; simpa only [List.append_assoc] using ho9)
                  have HG9 := hide (gb_trans HG3.out hg9)
                  clear ho9 hg9
                  go_wp2_with fail
                  go_end0
                  exact ⟨rfl, HS.out, HG9.out⟩
                · have z6 : (mid : Int) < (e : Int) := by omega
                  have z5 : ¬ (e : Int) < (b : Int) := by omega
                  have HS := hide (show w8.ownsRow lo 33 4 (.slice (some ⟨g, 0, none⟩) n c) n (rEvent (X ++ (stS (M1 ++ M2) ++ Y))) by
                    have hub : stS (U ++ B2) = U ++ B2 := stS_id (by
                      rcases Nat.lt_or_ge mid e with h1 | h1
                      · have : B2 = [] := List.eq_nil_of_length_eq_zero (by rw [HLL.out.2.2.2]; omega)
                        rw [this, List.append_nil]; exact HSS.out.2.1
                      · have : U = [] := List.eq_nil_of_length_eq_zero (by rw [HLL.out.2.1]; omega)
                        rw [this]; exact HSS.out.2.2.2)
                    rw [← HCUT.out, hub]
                    simpa only [List.append_assoc] using HO3.out)
                  go_wp2_with fail
                  go_end0
                  exact ⟨rfl, HS.out, HG3.out⟩
              · have z6 : ¬ (mid : Int) < (e : Int) := by omega
                have HS := hide (show w8.ownsRow lo 33 4 (.slice (some ⟨g, 0, none⟩) n c) n (rEvent (X ++ (stS (M1 ++ M2) ++ Y))) by
                  have hub : stS (U ++ B2) = U ++ B2 := stS_id (by
                    rcases Nat.lt_or_ge mid e with h1 | h1
                    · have : B2 = [] := List.eq_nil_of_length_eq_zero (by rw [HLL.out.2.2.2]; omega)
                      rw [this, List.append_nil]; exact HSS.out.2.1
                    · have : U = [] := List.eq_nil_of_length_eq_zero (by rw [HLL.out.2.1]; omega)
                      rw [this]; exact HSS.out.2.2.2)
                  rw [← HCUT.out, hub]
                  simpa only [List.append_assoc] using HO3.out)
                go_wp2_with fail
                go_end0
                exact ⟨rfl, HS.out, HG3.out⟩
            · have z6 : (a : Int) < (i : Int) := by omega
              have z5 : ¬ (i : Int) < (mid : Int) := by omega
              have HO3 := hide (show w5.ownsRow lo 33 4 (.slice (some ⟨g, 0, none⟩) n c) n (rEvent (X ++ (stS (A1 ++ V) ++ (U ++ (B2 ++ Y))))) by
                have hav : stS (A1 ++ V) = A1 ++ V := stS_id (by
                  rcases Nat.lt_or_ge a i with h1 | h1
                  · have : V = [] := List.eq_nil_of_length_eq_zero (by rw [HLL.out.2.2.1]; omega)
                    rw [this, List.append_nil]; exact HSS.out.1
                  · have : A1 = [] := List.eq_nil_of_length_eq_zero (by rw [HLL.out.1]; omega)
                    rw [this]; exact HSS.out.2.2.1)
                rw [hav]
                simpa only [List.append_assoc] using HO2.out)
              have HG3 := HG2
              clear HG2 HO2
              go_upto_region 43 with fail
              by_cases h5 : mid < e
              · by_cases h6 : e < b
                · have z5 : decide ((e : Int) < (b : Int)) = true := by simp; omega
                  have z6 : (mid : Int) < (e : Int) := by omega
                  go_wp2_with fail
                  with_reducible refine (IH.out (X ++ stS (A1 ++ V)) U B2 Y mid e b (by rw [List.length_append, stS_len, List.length_append, HXL.out, HLL.out.1, HLL.out.2.2.1]; omega) (by rw [HLL.out.2.1]; omega) (by rw [HLL.out.2.2.2]; omega) (by rw [HLL.out.2.1]; omega) (by rw [HLL.out.2.2.2]; omega) (by omega) HSS.out.2.1 HSS.out.2.2.2 _ _ _ (by omega) (by omega) (by omega) _ (by have q := HO3.out; simpa only [List.append_assoc] using q)).mono ?_
                  rintro e' w9 ⟨rfl, ho9, hg9⟩
                  have HS := hide (show w9.ownsRow lo 33 4 (.slice (some ⟨g, 0, none⟩) n c) n (rEvent (X ++ (stS (M1 ++ M2) ++ Y))) by rw [← HCUT.out]; simpa only [List.append_assoc] using ho9)
                  have HG9 := hide (gb_trans HG3.out hg9)
                  clear ho9 hg9
                  go_wp2_with fail
                  go_end0
                  exact ⟨rfl, HS.out, HG9.out⟩
                · have z6 : (mid : Int) < (e : Int) := by omega
                  have z5 : ¬ (e : Int) < (b : Int) := by omega
                  have HS := hide (show w5.ownsRow lo 33 4 (.slice (some ⟨g, 0, none⟩) n c) n (rEvent (X ++ (stS (M1 ++ M2) ++ Y))) by
                    have hub : stS (U ++ B2) = U ++ B2 := stS_id (by
                      rcases Nat.lt_or_ge mid e with h1 | h1
                      · have : B2 = [] := List.eq_nil_of_length_eq_zero (by rw [HLL.out.2.2.2]; omega)
                        rw [this, List.append_nil]; exact HSS.out.2.1
                      · have : U = [] := List.eq_nil_of_length_eq_zero (by rw [HLL.out.2.1]; omega)
                        rw [this]; exact HSS.out.2.2.2)
                    rw [← HCUT.out, hub]
                    simpa only [List.append_assoc] using HO3.out)
                  go_wp2_with fail
                  go_end0
                  exact ⟨rfl, HS.out, HG3.out⟩
              · have z6 : ¬ (mid : Int) < (e : Int) := by omega
                have HS := hide (show w5.ownsRow lo 33 4 (.slice (some ⟨g, 0, none⟩) n c) n (rEvent (X ++ (stS (M1 ++ M2) ++ Y))) by
                  have hub : stS (U ++ B2) = U ++ B2 := stS_id (by
                    rcases Nat.lt_or_ge mid e with h1 | h1
                    · have : B2 = [] := List.eq_nil_of_length_eq_zero (by rw [HLL.out.2.2.2]; omega)
                      rw [this, List.append_nil]; exact HSS.out.2.1
                    · have : U = [] := List.eq_nil_of_length_eq_zero (by rw [HLL.out.2.1]; omega)
                      rw [this]; exact HSS.out.2.2.2)
                  rw [← HCUT.out, hub]
                  simpa only [List.append_assoc] using HO3.out)
                go_wp2_with fail
                go_end0
                exact ⟨rfl, HS.out, HG3.out⟩
          · have z6 : ¬ (a : Int) < (i : Int) := by omega
            have HO3 := hide (show w5.ownsRow lo 33 4 (.slice (some ⟨g, 0, none⟩) n c) n (rEvent (X ++ (stS (A1 ++ V) ++ (U ++ (B2 ++ Y))))) by
              have hav : stS (A1 ++ V) = A1 ++ V := stS_id (by
                rcases Nat.lt_or_ge a i with h1 | h1
                · have : V = [] := List.eq_nil_of_length_eq_zero (by rw [HLL.out.2.2.1]; omega)
                  rw [this, List.append_nil]; exact HSS.out.1
                · have : A1 = [] := List.eq_nil_of_length_eq_zero (by rw [HLL.out.1]; omega)
                  rw [this]; exact HSS.out.2.2.1)
              rw [hav]
              simpa only [List.append_assoc] using HO2.out)
            have HG3 := HG2
            clear HG2 HO2
            go_upto_region 43 with fail
            by_cases h5 : mid < e
            · by_cases h6 : e < b
              · have z5 : decide ((e : Int) < (b : Int)) = true := by simp; omega
                have z6 : (mid : Int) < (e : Int) := by omega
                go_wp2_with fail
                with_reducible refine (IH.out (X ++ stS (A1 ++ V)) U B2 Y mid e b (by rw [List.length_append, stS_len, List.length_append, HXL.out, HLL.out.1, HLL.out.2.2.1]; omega) (by rw [HLL.out.2.1]; omega) (by rw [HLL.out.2.2.2]; omega) (by rw [HLL.out.2.1]; omega) (by rw [HLL.out.2.2.2]; omega) (by omega) HSS.out.2.1 HSS.out.2.2.2 _ _ _ (by omega) (by omega) (by omega) _ (by have q := HO3.out; simpa only [List.append_assoc] using q)).mono ?_
                rintro e' w9 ⟨rfl, ho9, hg9⟩
                have HS := hide (show w9.ownsRow lo 33 4 (.slice (some ⟨g, 0, none⟩) n c) n (rEvent (X ++ (stS (M1 ++ M2) ++ Y))) by rw [← HCUT.out]; simpa only [List.append_assoc] using ho9)
                have HG9 := hide (gb_trans HG3.out hg9)
                clear ho9 hg9
                go_wp2_with fail
                go_end0
                exact ⟨rfl, HS.out, HG9.out⟩
              · have z6 : (mid : Int) < (e : Int) := by omega
                have z5 : ¬ (e : Int) < (b : Int) := by omega
                have HS := hide (show w5.ownsRow lo 33 4 (.slice (some ⟨g, 0, none⟩) n c) n (rEvent (X ++ (stS (M1 ++ M2) ++ Y))) by
                  have hub : stS (U ++ B2) = U ++ B2 := stS_id (by
                    rcases Nat.lt_or_ge mid e with h1 | h1
                    · have : B2 = [] := List.eq_nil_of_length_eq_zero (by rw [HLL.out.2.2.2]; omega)
                      rw [this, List.append_nil]; exact HSS.out.2.1
                    · have : U = [] := List.eq_nil_of_length_eq_zero (by rw [HLL.out.2.1]; omega)
                      rw [this]; exact HSS.out.2.2.2)
                  rw [← HCUT.out, hub]
                  simpa only [List.append_assoc] using HO3.out)
                go_wp2_with fail
                go_end0
                exact ⟨rfl, HS.out, HG3.out⟩
            · have z6 : ¬ (mid : Int) < (e : Int) := by omega
              have HS := hide (show w5.ownsRow lo 33 4 (.slice (some ⟨g, 0, none⟩) n c) n (rEvent (X ++ (stS (M1 ++ M2) ++ Y))) by
                have hub : stS (U ++ B2) = U ++ B2 := stS_id (by
                  rcases Nat.lt_or_ge mid e with h1 | h1
                  · have : B2 = [] := List.eq_nil_of_length_eq_zero (by rw [HLL.out.2.2.2]; omega)
                    rw [this, List.append_nil]; exact HSS.out.2.1
                  · have : U = [] := List.eq_nil_of_length_eq_zero (by rw [HLL.out.2.1]; omega)
                    rw [this]; exact HSS.out.2.2.2)
                rw [← HCUT.out, hub]
                simpa only [List.append_assoc] using HO3.out)
              go_wp2_with fail
              go_end0
              exact ⟨rfl, HS.out, HG3.out⟩
  · have z3 : ¬ (mid : Int) < (m : Int) := by omega
    obtain ⟨s0, hs0⟩ : ∃ s0, s0 = a := ⟨_, rfl⟩
    obtain ⟨r0, hr0⟩ : ∃ r0, r0 = m := ⟨_, rfl⟩
    have hs0a : a ≤ s0 := by omega
    have hr0m : r0 ≤ m := by omega
    have hs0r : s0 ≤ r0 := by omega
    have HRG : Hid (∀ d, s0 ≤ d → d < r0 → m ≤ N - 1 - d ∧ N - 1 - d < b ∧ d + 1 ≤ N) := hide (by intro d h1 h2; omega)
    have HSR : Hid ((s0 = a ∨ s0 + b = N) ∧ (r0 = m ∨ r0 + m = N)) := hide ⟨.inl hs0, .inl hr0⟩
    have q1 : s0 ≤ a := by omega
    have q2 : m ≤ r0 := by omega
    clear hs0 hr0
    go_upto_region 33 with fail
    obtain ⟨PP, hP1, hP2⟩ : ∃ PP : Nat, PP + 1 ≤ N ∧ N ≤ PP + 1 := ⟨N - 1, by omega, by omega⟩
    have hPi : (N : Int) - 1 = (PP : Int) := by omega
    rw [hPi]
    clear hPi
    go_loopw [20, 21, 23] (fun si sj _ wr => ∃ i j : Nat, s0 ≤ i ∧ i ≤ j ∧ j ≤ r0 ∧ si = .int .i64 (i : Int) ∧ sj = .int .i64 (j : Int) ∧ Hid (∀ d, s0 ≤ d → d < i → kev (X ++ (M1 ++ (M2 ++ Y))) d ≤ kev (X ++ (M1 ++ (M2 ++ Y))) (N - 1 - d)) ∧ Hid (∀ d, j ≤ d → d < r0 → kev (X ++ (M1 ++ (M2 ++ Y))) (N - 1 - d) < kev (X ++ (M1 ++ (M2 ++ Y))) d) ∧ Hid (wr.ownsRow lo 33 4 (.slice (some ⟨g, 0, none⟩) n c) n (rEvent (X ++ (M1 ++ (M2 ++ Y))))) ∧ Hid (w.grownBy wr (some g))) (fun si sj _ _ => (intOf sj).toNat - (intOf si).toNat)
    case atStart => exact ⟨s0, r0, by omega, by omega, by omega, by first | rfl | exact vint (by omega), by first | rfl | exact vint (by omega), hide (by intro d h1 h2; omega), hide (by intro d h1 h2; omega), H, hide (gb_refl _ _)⟩
    case round =>
      clear H
      obtain ⟨i, j, hi1, hij, hjr, rfl, rfl, HLO, HHI, HO, HG⟩ := hrel
      by_cases hlt : i < j
      · have z2 : (i : Int) < (j : Int) := by omega
        go_upto_region 35 with fail
        obtain ⟨C, hC1, hC2⟩ : ∃ C : Nat, 2 * C ≤ i + j ∧ i + j ≤ 2 * C + 1 := ⟨(i + j) / 2, by omega, by omega⟩
        have hHi : ((i : Int) + (j : Int)) / 2 = (C : Int) := by omega
        rw [hHi]
        clear hHi
        obtain ⟨g1, g2, g3⟩ := HRG.out C (by omega) (by omega)
        obtain ⟨Q, hQ⟩ : ∃ Q, N - 1 - C = Q := ⟨_, rfl⟩
        have hQi : (PP : Int) - (C : Int) = (Q : Int) := by omega
        have hQw : IntKind.i64.wrap ((PP : Int) - (C : Int)) = (Q : Int) := by rw [hQi]; exact IntWalk.i64_in _ (by omega)
        have hQ8 : IntKind.i64.wrap (Q : Int) = (Q : Int) := IntWalk.i64_in _ (by omega)
        have HQ := hide hQ
        rw [hQ] at g1 g2
        clear hQ
        obtain ⟨x, hx⟩ : ∃ x, (X ++ (M1 ++ (M2 ++ Y))).getD Q zE = x := ⟨_, rfl⟩
        obtain ⟨y, hy⟩ : ∃ y, (X ++ (M1 ++ (M2 ++ Y))).getD C zE = y := ⟨_, rfl⟩
        obtain ⟨x0, x1, x2, x3⟩ := x
        obtain ⟨y0, y1, y2, y3⟩ := y
        have HKX : Hid (kev (X ++ (M1 ++ (M2 ++ Y))) (N - 1 - C) = x0) := hide (by rw [HQ.out]; unfold kev; rw [show ((0, 0, 0, 0) : Evt) = zE from rfl, hx])
        have HKY : Hid (kev (X ++ (M1 ++ (M2 ++ Y))) C = y0) := hide (by unfold kev; rw [show ((0, 0, 0, 0) : Evt) = zE from rfl, hy])
        have b1 : Q < n := by omega
        have b2 : C < n := by omega
        have b3 : (0 : Int) ≤ (Q : Int) := by omega
        have b4 : (Q : Int) < (n : Int) := by omega
        obtain ⟨c0, c1, c2, c3⟩ := se_cells HO.out (by omega) hx
        obtain ⟨d0, d1, d2, d3⟩ := se_cells HO.out (by omega) hy
        have HS8 : Hid ((fun W => W.cell? ⟨g, Q * 4, none⟩ = some (.int .i64 x0) ∧ W.cell? ⟨g, Q * 4 + 1, none⟩ = some (.int .i64 x1) ∧ W.cell? ⟨g, Q * 4 + 2, none⟩ = some (.int .i64 x2) ∧ W.cell? ⟨g, Q * 4 + 3, none⟩ = some (.int .i64 x3) ∧ W.cell? ⟨g, C * 4, none⟩ = some (.int .i64 y0) ∧ W.cell? ⟨g, C * 4 + 1, none⟩ = some (.int .i64 y1) ∧ W.cell? ⟨g, C * 4 + 2, none⟩ = some (.int .i64 y2) ∧ W.cell? ⟨g, C * 4 + 3, none⟩ = some (.int .i64 y3)) wr) := hide ⟨c0, c1, c2, c3, d0, d1, d2, d3⟩
        have hgs : g < wr.heap.size := (HO.out.lt g rfl).2
        have HCM := hide (show Calls Try.prog 16 #[.agg #[.int .i64 x0, .int .i64 x1, .int .i64 x2, .int .i64 x3], .agg #[.int .i64 y0, .int .i64 y1, .int .i64 y2, .int .i64 y3]] (World.drew wr) fun e w' => e = .returned (.int .i64 (cmpE (x0, x1, x2, x3) (y0, y1, y2, y3))) ∧ Below wr.heap.size wr w' from (compareEvents_any (x0, x1, x2, x3) (y0, y1, y2, y3) _).mono (fun e w' h => ⟨h.1, (Joins.below_draws _ _ 1 : Below wr.heap.size wr wr.drew).trans h.2⟩))
        clear c0 c1 c2 c3 d0 d1 d2 d3
        have HX := hide hx
        have HY := hide hy
        clear hx hy
        go_wp2_with fail
        go_region_held3 (fun W => W.cell? ⟨g, Q * 4, none⟩ = some (.int .i64 x0) ∧ W.cell? ⟨g, Q * 4 + 1, none⟩ = some (.int .i64 x1) ∧ W.cell? ⟨g, Q * 4 + 2, none⟩ = some (.int .i64 x2) ∧ W.cell? ⟨g, Q * 4 + 3, none⟩ = some (.int .i64 x3) ∧ W.cell? ⟨g, C * 4, none⟩ = some (.int .i64 y0) ∧ W.cell? ⟨g, C * 4 + 1, none⟩ = some (.int .i64 y1) ∧ W.cell? ⟨g, C * 4 + 2, none⟩ = some (.int .i64 y2) ∧ W.cell? ⟨g, C * 4 + 3, none⟩ = some (.int .i64 y3)) (first | exact HS8.out | exact HS9.out) (first | (go_at_call 16; (with_reducible refine HCM.out.mono ?_); rintro e w6 ⟨rfl, hb6⟩; have HO6 := hide (owns_below HO.out hb6); have HG6 := hide (gb_trans HG.out (gb_below hb6 _)); have HS9 : Hid ((fun W => W.cell? ⟨g, Q * 4, none⟩ = some (.int .i64 x0) ∧ W.cell? ⟨g, Q * 4 + 1, none⟩ = some (.int .i64 x1) ∧ W.cell? ⟨g, Q * 4 + 2, none⟩ = some (.int .i64 x2) ∧ W.cell? ⟨g, Q * 4 + 3, none⟩ = some (.int .i64 x3) ∧ W.cell? ⟨g, C * 4, none⟩ = some (.int .i64 y0) ∧ W.cell? ⟨g, C * 4 + 1, none⟩ = some (.int .i64 y1) ∧ W.cell? ⟨g, C * 4 + 2, none⟩ = some (.int .i64 y2) ∧ W.cell? ⟨g, C * 4 + 3, none⟩ = some (.int .i64 y3)) w6) := hide ⟨(hb6.cell (p := ⟨g, Q * 4, none⟩) hgs).trans HS8.out.1, (hb6.cell (p := ⟨g, Q * 4 + 1, none⟩) hgs).trans HS8.out.2.1, (hb6.cell (p := ⟨g, Q * 4 + 2, none⟩) hgs).trans HS8.out.2.2.1, (hb6.cell (p := ⟨g, Q * 4 + 3, none⟩) hgs).trans HS8.out.2.2.2.1, (hb6.cell (p := ⟨g, C * 4, none⟩) hgs).trans HS8.out.2.2.2.2.1, (hb6.cell (p := ⟨g, C * 4 + 1, none⟩) hgs).trans HS8.out.2.2.2.2.2.1, (hb6.cell (p := ⟨g, C * 4 + 2, none⟩) hgs).trans HS8.out.2.2.2.2.2.2.1, (hb6.cell (p := ⟨g, C * 4 + 3, none⟩) hgs).trans HS8.out.2.2.2.2.2.2.2⟩; clear hb6))
        rw [cmpE_lt]
        clear HO HG HS8 HCM hgs
        by_cases hc : x0 < y0
        · rw [show decide ((x0, x1, x2, x3).1 < (y0, y1, y2, y3).1) = true from decide_eq_true hc]
          have HHI2 := hide (sym_hi (Y := Y) (c := C) HA.out.1 HA.out.2.1 HA.out.2.2.1 HA.out.2.2.2.1 HA.out.2.2.2.2 hs0a (by omega) hr0m (by omega) HRG.out (by rw [HKX.out, HKY.out]; exact hc))
          clear hc HHI
          go_wp2_with fail
          go_roundw
          case rel => exact ⟨i, C, by omega, by omega, by omega, rfl, by go_num, HLO, HHI2, HO6, HG6⟩
          case measure => simp [intOf]; omega
        · rw [show decide ((x0, x1, x2, x3).1 < (y0, y1, y2, y3).1) = false from decide_eq_false hc]
          have HLO2 := hide (sym_lo (Y := Y) HA.out.1 HA.out.2.1 HA.out.2.2.1 HA.out.2.2.2.1 HA.out.2.2.2.2 hs0a (c := C) (by omega) (by omega) (fun d h1 h2 => HRG.out d h1 (by omega)) (by rw [HKX.out, HKY.out]; have hc' : ¬ x0 < y0 := hc; omega))
          clear hc HLO
          go_wp2_with fail
          go_roundw
          case rel => exact ⟨C + 1, j, by omega, by omega, by omega, by go_num, rfl, HLO2, HHI, HO6, HG6⟩
          case measure => simp [intOf]; omega
      · have z2 : ¬ (i : Int) < (j : Int) := by omega
        obtain ⟨e, he⟩ : ∃ e, i + e = N := ⟨N - i, by omega⟩
        obtain rfl : i = j := by omega
        have hme : m ≤ e := by omega
        have heb : e ≤ b := by omega
        have hfd := sym_found HA.out.1 HA.out.2.1 HA.out.2.2.1 HA.out.2.2.2.1 HA.out.2.2.2.2 hs0a hr0m hi1 hjr he HRG.out HSR.out.1 HSR.out.2 hme heb HLO.out HHI.out
        have HCUT : Hid (stS ((M1.take (i - a)) ++ (M2.take (e - m))) ++ stS ((M1.drop (i - a)) ++ (M2.drop (e - m))) = stS (M1 ++ M2)) := hide (by
          have := sym_cut (A := (M1.take (i - a))) (U := (M1.drop (i - a))) (V := (M2.take (e - m))) (B := (M2.drop (e - m))) (by rw [List.take_append_drop]; exact HA.out.2.2.2.1) (by rw [List.take_append_drop]; exact HA.out.2.2.2.2) hfd.1 hfd.2
          rw [List.take_append_drop, List.take_append_drop] at this
          exact this)
        have HE1 : Hid (M1 = (M1.take (i - a)) ++ (M1.drop (i - a))) := hide (List.take_append_drop _ _).symm
        have HE2 : Hid (M2 = (M2.take (e - m)) ++ (M2.drop (e - m))) := hide (List.take_append_drop _ _).symm
        have hl1 : ((M1.take (i - a))).length = i - a := by rw [List.length_take]; have := HA.out.2.1; omega
        have hl2 : ((M1.drop (i - a))).length = m - i := by rw [List.length_drop]; have := HA.out.2.1; omega
        have hl3 : ((M2.take (e - m))).length = e - m := by rw [List.length_take]; have := HA.out.2.2.1; omega
        have hl4 : ((M2.drop (e - m))).length = b - e := by rw [List.length_drop]; have := HA.out.2.2.1; omega
        have hs1 : Srt (M1.take (i - a)) := HA.out.2.2.2.1.sublist (List.take_sublist _ _)
        have hs2 : Srt (M1.drop (i - a)) := HA.out.2.2.2.1.sublist (List.drop_sublist _ _)
        have hs3 : Srt (M2.take (e - m)) := HA.out.2.2.2.2.sublist (List.take_sublist _ _)
        have hs4 : Srt (M2.drop (e - m)) := HA.out.2.2.2.2.sublist (List.drop_sublist _ _)
        have hO := HO.out
        rw [HE1.out, HE2.out] at hO
        obtain ⟨A1, hA1⟩ : ∃ z, (M1.take (i - a)) = z := ⟨_, rfl⟩
        obtain ⟨U, hU⟩ : ∃ z, (M1.drop (i - a)) = z := ⟨_, rfl⟩
        obtain ⟨V, hV⟩ : ∃ z, (M2.take (e - m)) = z := ⟨_, rfl⟩
        obtain ⟨B2, hB2⟩ : ∃ z, (M2.drop (e - m)) = z := ⟨_, rfl⟩
        rw [hA1, hU, hV, hB2] at hO HCUT
        rw [hA1] at hl1 hs1
        rw [hU] at hl2 hs2
        rw [hV] at hl3 hs3
        rw [hB2] at hl4 hs4
        have HO1 := hide (show wr.ownsRow lo 33 4 (.slice (some ⟨g, 0, none⟩) n c) n (rEvent (X ++ (A1 ++ (U ++ (V ++ (B2 ++ Y)))))) by simpa only [List.append_assoc] using hO)
        have HLL := hide (And.intro hl1 (And.intro hl2 (And.intro hl3 hl4)))
        have HSS := hide (And.intro hs1 (And.intro hs2 (And.intro hs3 hs4)))
        have HXL := hide HA.out.1
        clear hA1 hU hV hB2 hl1 hl2 hl3 hl4 hs1 hs2 hs3 hs4 hO HO HE1 HE2 HLO HHI hfd HA
        have he1 : (N : Int) - (i : Int) = (e : Int) := by omega
        generalize wr = w5 at *
        go_upto_region 39 with fail
        try rw [he1]
        clear he1
        by_cases h1 : i < m
        · by_cases h2 : m < e
          · have z5 : decide ((m : Int) < (e : Int)) = true := by simp; omega
            have z6 : (i : Int) < (m : Int) := by omega
            go_wp2_with fail
            with_reducible refine (rotate_at g n c lo _ (X ++ A1) U V (B2 ++ Y) i m e (by rw [List.length_append, HXL.out, HLL.out.1]; omega) (by rw [HLL.out.2.1]; omega) (by rw [HLL.out.2.2.1]; omega) (by rw [HLL.out.2.1]; omega) (by rw [HLL.out.2.2.1]; omega) hn _ _ _ (by omega) (by omega) (by omega) _ (by have q := HO1.out; simpa only [List.append_assoc] using q)).mono ?_
            rintro e' w7 ⟨rfl, ho7, hg7⟩
            have HO2 := hide (show w7.ownsRow lo 33 4 (.slice (some ⟨g, 0, none⟩) n c) n (rEvent (X ++ (A1 ++ (V ++ (U ++ (B2 ++ Y)))))) by simpa only [List.append_assoc] using ho7)
            have HG2 := hide (gb_trans HG.out hg7)
            clear ho7 hg7
            go_upto_region 41 with fail
            by_cases h3 : a < i
            · by_cases h4 : i < mid
              · have z5 : decide ((i : Int) < (mid : Int)) = true := by simp; omega
                have z6 : (a : Int) < (i : Int) := by omega
                go_wp2_with fail
                with_reducible refine (IH.out X A1 V (U ++ (B2 ++ Y)) a i mid HXL.out (by rw [HLL.out.1]; omega) (by rw [HLL.out.2.2.1]; omega) (by rw [HLL.out.1]; omega) (by rw [HLL.out.2.2.1]; omega) (by omega) HSS.out.1 HSS.out.2.2.1 _ _ _ (by omega) (by omega) (by omega) _ HO2.out).mono ?_
                rintro e' w8 ⟨rfl, ho8, hg8⟩
                have HO3 := hide ho8
                have HG3 := hide (gb_trans HG2.out hg8)
                clear ho8 hg8
                go_upto_region 43 with fail
                by_cases h5 : mid < e
                · by_cases h6 : e < b
                  · have z5 : decide ((e : Int) < (b : Int)) = true := by simp; omega
                    have z6 : (mid : Int) < (e : Int) := by omega
                    go_wp2_with fail
                    with_reducible refine (IH.out (X ++ stS (A1 ++ V)) U B2 Y mid e b (by rw [List.length_append, stS_len, List.length_append, HXL.out, HLL.out.1, HLL.out.2.2.1]; omega) (by rw [HLL.out.2.1]; omega) (by rw [HLL.out.2.2.2]; omega) (by rw [HLL.out.2.1]; omega) (by rw [HLL.out.2.2.2]; omega) (by omega) HSS.out.2.1 HSS.out.2.2.2 _ _ _ (by omega) (by omega) (by omega) _ (by have q := HO3.out; simpa only [List.append_assoc] using q)).mono ?_
                    rintro e' w9 ⟨rfl, ho9, hg9⟩
                    have HS := hide (show w9.ownsRow lo 33 4 (.slice (some ⟨g, 0, none⟩) n c) n (rEvent (X ++ (stS (M1 ++ M2) ++ Y))) by rw [← HCUT.out]; simpa only [List.append_assoc] using ho9)
                    have HG9 := hide (gb_trans HG3.out hg9)
                    clear ho9 hg9
                    go_wp2_with fail
                    go_end0
                    exact ⟨rfl, HS.out, HG9.out⟩
                  · have z6 : (mid : Int) < (e : Int) := by omega
                    have z5 : ¬ (e : Int) < (b : Int) := by omega
                    have HS := hide (show w8.ownsRow lo 33 4 (.slice (some ⟨g, 0, none⟩) n c) n (rEvent (X ++ (stS (M1 ++ M2) ++ Y))) by
                      have hub : stS (U ++ B2) = U ++ B2 := stS_id (by
                        rcases Nat.lt_or_ge mid e with h1 | h1
                        · have : B2 = [] := List.eq_nil_of_length_eq_zero (by rw [HLL.out.2.2.2]; omega)
                          rw [this, List.append_nil]; exact HSS.out.2.1
                        · have : U = [] := List.eq_nil_of_length_eq_zero (by rw [HLL.out.2.1]; omega)
                          rw [this]; exact HSS.out.2.2.2)
                      rw [← HCUT.out, hub]
                      simpa only [List.append_assoc] using HO3.out)
                    go_wp2_with fail
                    go_end0
                    exact ⟨rfl, HS.out, HG3.out⟩
                · have z6 : ¬ (mid : Int) < (e : Int) := by omega
                  have HS := hide (show w8.ownsRow lo 33 4 (.slice (some ⟨g, 0, none⟩) n c) n (rEvent (X ++ (stS (M1 ++ M2) ++ Y))) by
                    have hub : stS (U ++ B2) = U ++ B2 := stS_id (by
                      rcases Nat.lt_or_ge mid e with h1 | h1
                      · have : B2 = [] := List.eq_nil_of_length_eq_zero (by rw [HLL.out.2.2.2]; omega)
                        rw [this, List.append_nil]; exact HSS.out.2.1
                      · have : U = [] := List.eq_nil_of_length_eq_zero (by rw [HLL.out.2.1]; omega)
                        rw [this]; exact HSS.out.2.2.2)
                    rw [← HCUT.out, hub]
                    simpa only [List.append_assoc] using HO3.out)
                  go_wp2_with fail
                  go_end0
                  exact ⟨rfl, HS.out, HG3.out⟩
              · have z6 : (a : Int) < (i : Int) := by omega
                have z5 : ¬ (i : Int) < (mid : Int) := by omega
                have HO3 := hide (show w7.ownsRow lo 33 4 (.slice (some ⟨g, 0, none⟩) n c) n (rEvent (X ++ (stS (A1 ++ V) ++ (U ++ (B2 ++ Y))))) by
                  have hav : stS (A1 ++ V) = A1 ++ V := stS_id (by
                    rcases Nat.lt_or_ge a i with h1 | h1
                    · have : V = [] := List.eq_nil_of_length_eq_zero (by rw [HLL.out.2.2.1]; omega)
                      rw [this, List.append_nil]; exact HSS.out.1
                    · have : A1 = [] := List.eq_nil_of_length_eq_zero (by rw [HLL.out.1]; omega)
                      rw [this]; exact HSS.out.2.2.1)
                  rw [hav]
                  simpa only [List.append_assoc] using HO2.out)
                have HG3 := HG2
                clear HG2 HO2
                go_upto_region 43 with fail
                by_cases h5 : mid < e
                · by_cases h6 : e < b
                  · have z5 : decide ((e : Int) < (b : Int)) = true := by simp; omega
                    have z6 : (mid : Int) < (e : Int) := by omega
                    go_wp2_with fail
                    with_reducible refine (IH.out (X ++ stS (A1 ++ V)) U B2 Y mid e b (by rw [List.length_append, stS_len, List.length_append, HXL.out, HLL.out.1, HLL.out.2.2.1]; omega) (by rw [HLL.out.2.1]; omega) (by rw [HLL.out.2.2.2]; omega) (by rw [HLL.out.2.1]; omega) (by rw [HLL.out.2.2.2]; omega) (by omega) HSS.out.2.1 HSS.out.2.2.2 _ _ _ (by omega) (by omega) (by omega) _ (by have q := HO3.out; simpa only [List.append_assoc] using q)).mono ?_
                    rintro e' w9 ⟨rfl, ho9, hg9⟩
                    have HS := hide (show w9.ownsRow lo 33 4 (.slice (some ⟨g, 0, none⟩) n c) n (rEvent (X ++ (stS (M1 ++ M2) ++ Y))) by rw [← HCUT.out]; simpa only [List.append_assoc] using ho9)
                    have HG9 := hide (gb_trans HG3.out hg9)
                    clear ho9 hg9
                    go_wp2_with fail
                    go_end0
                    exact ⟨rfl, HS.out, HG9.out⟩
                  · have z6 : (mid : Int) < (e : Int) := by omega
                    have z5 : ¬ (e : Int) < (b : Int) := by omega
                    have HS := hide (show w7.ownsRow lo 33 4 (.slice (some ⟨g, 0, none⟩) n c) n (rEvent (X ++ (stS (M1 ++ M2) ++ Y))) by
                      have hub : stS (U ++ B2) = U ++ B2 := stS_id (by
                        rcases Nat.lt_or_ge mid e with h1 | h1
                        · have : B2 = [] := List.eq_nil_of_length_eq_zero (by rw [HLL.out.2.2.2]; omega)
                          rw [this, List.append_nil]; exact HSS.out.2.1
                        · have : U = [] := List.eq_nil_of_length_eq_zero (by rw [HLL.out.2.1]; omega)
                          rw [this]; exact HSS.out.2.2.2)
                      rw [← HCUT.out, hub]
                      simpa only [List.append_assoc] using HO3.out)
                    go_wp2_with fail
                    go_end0
                    exact ⟨rfl, HS.out, HG3.out⟩
                · have z6 : ¬ (mid : Int) < (e : Int) := by omega
                  have HS := hide (show w7.ownsRow lo 33 4 (.slice (some ⟨g, 0, none⟩) n c) n (rEvent (X ++ (stS (M1 ++ M2) ++ Y))) by
                    have hub : stS (U ++ B2) = U ++ B2 := stS_id (by
                      rcases Nat.lt_or_ge mid e with h1 | h1
                      · have : B2 = [] := List.eq_nil_of_length_eq_zero (by rw [HLL.out.2.2.2]; omega)
                        rw [this, List.append_nil]; exact HSS.out.2.1
                      · have : U = [] := List.eq_nil_of_length_eq_zero (by rw [HLL.out.2.1]; omega)
                        rw [this]; exact HSS.out.2.2.2)
                    rw [← HCUT.out, hub]
                    simpa only [List.append_assoc] using HO3.out)
                  go_wp2_with fail
                  go_end0
                  exact ⟨rfl, HS.out, HG3.out⟩
            · have z6 : ¬ (a : Int) < (i : Int) := by omega
              have HO3 := hide (show w7.ownsRow lo 33 4 (.slice (some ⟨g, 0, none⟩) n c) n (rEvent (X ++ (stS (A1 ++ V) ++ (U ++ (B2 ++ Y))))) by
                have hav : stS (A1 ++ V) = A1 ++ V := stS_id (by
                  rcases Nat.lt_or_ge a i with h1 | h1
                  · have : V = [] := List.eq_nil_of_length_eq_zero (by rw [HLL.out.2.2.1]; omega)
                    rw [this, List.append_nil]; exact HSS.out.1
                  · have : A1 = [] := List.eq_nil_of_length_eq_zero (by rw [HLL.out.1]; omega)
                    rw [this]; exact HSS.out.2.2.1)
                rw [hav]
                simpa only [List.append_assoc] using HO2.out)
              have HG3 := HG2
              clear HG2 HO2
              go_upto_region 43 with fail
              by_cases h5 : mid < e
              · by_cases h6 : e < b
                · have z5 : decide ((e : Int) < (b : Int)) = true := by simp; omega
                  have z6 : (mid : Int) < (e : Int) := by omega
                  go_wp2_with fail
                  with_reducible refine (IH.out (X ++ stS (A1 ++ V)) U B2 Y mid e b (by rw [List.length_append, stS_len, List.length_append, HXL.out, HLL.out.1, HLL.out.2.2.1]; omega) (by rw [HLL.out.2.1]; omega) (by rw [HLL.out.2.2.2]; omega) (by rw [HLL.out.2.1]; omega) (by rw [HLL.out.2.2.2]; omega) (by omega) HSS.out.2.1 HSS.out.2.2.2 _ _ _ (by omega) (by omega) (by omega) _ (by have q := HO3.out; simpa only [List.append_assoc] using q)).mono ?_
                  rintro e' w9 ⟨rfl, ho9, hg9⟩
                  have HS := hide (show w9.ownsRow lo 33 4 (.slice (some ⟨g, 0, none⟩) n c) n (rEvent (X ++ (stS (M1 ++ M2) ++ Y))) by rw [← HCUT.out]; simpa only [List.append_assoc] using ho9)
                  have HG9 := hide (gb_trans HG3.out hg9)
                  clear ho9 hg9
                  go_wp2_with fail
                  go_end0
                  exact ⟨rfl, HS.out, HG9.out⟩
                · have z6 : (mid : Int) < (e : Int) := by omega
                  have z5 : ¬ (e : Int) < (b : Int) := by omega
                  have HS := hide (show w7.ownsRow lo 33 4 (.slice (some ⟨g, 0, none⟩) n c) n (rEvent (X ++ (stS (M1 ++ M2) ++ Y))) by
                    have hub : stS (U ++ B2) = U ++ B2 := stS_id (by
                      rcases Nat.lt_or_ge mid e with h1 | h1
                      · have : B2 = [] := List.eq_nil_of_length_eq_zero (by rw [HLL.out.2.2.2]; omega)
                        rw [this, List.append_nil]; exact HSS.out.2.1
                      · have : U = [] := List.eq_nil_of_length_eq_zero (by rw [HLL.out.2.1]; omega)
                        rw [this]; exact HSS.out.2.2.2)
                    rw [← HCUT.out, hub]
                    simpa only [List.append_assoc] using HO3.out)
                  go_wp2_with fail
                  go_end0
                  exact ⟨rfl, HS.out, HG3.out⟩
              · have z6 : ¬ (mid : Int) < (e : Int) := by omega
                have HS := hide (show w7.ownsRow lo 33 4 (.slice (some ⟨g, 0, none⟩) n c) n (rEvent (X ++ (stS (M1 ++ M2) ++ Y))) by
                  have hub : stS (U ++ B2) = U ++ B2 := stS_id (by
                    rcases Nat.lt_or_ge mid e with h1 | h1
                    · have : B2 = [] := List.eq_nil_of_length_eq_zero (by rw [HLL.out.2.2.2]; omega)
                      rw [this, List.append_nil]; exact HSS.out.2.1
                    · have : U = [] := List.eq_nil_of_length_eq_zero (by rw [HLL.out.2.1]; omega)
                      rw [this]; exact HSS.out.2.2.2)
                  rw [← HCUT.out, hub]
                  simpa only [List.append_assoc] using HO3.out)
                go_wp2_with fail
                go_end0
                exact ⟨rfl, HS.out, HG3.out⟩
          · have z6 : (i : Int) < (m : Int) := by omega
            have z5 : ¬ (m : Int) < (e : Int) := by omega
            have HO2 := hide (show w5.ownsRow lo 33 4 (.slice (some ⟨g, 0, none⟩) n c) n (rEvent (X ++ (A1 ++ (V ++ (U ++ (B2 ++ Y)))))) by
              have huv : V ++ (U ++ (B2 ++ Y)) = U ++ (V ++ (B2 ++ Y)) := by
                rcases Nat.lt_or_ge i m with h1 | h1
                · have : V = [] := List.eq_nil_of_length_eq_zero (by rw [HLL.out.2.2.1]; omega)
                  rw [this]; rfl
                · have : U = [] := List.eq_nil_of_length_eq_zero (by rw [HLL.out.2.1]; omega)
                  rw [this]; rfl
              rw [huv]
              exact HO1.out)
            have HG2 := HG
            clear HG HO1
            go_upto_region 41 with fail
            by_cases h3 : a < i
            · by_cases h4 : i < mid
              · have z5 : decide ((i : Int) < (mid : Int)) = true := by simp; omega
                have z6 : (a : Int) < (i : Int) := by omega
                go_wp2_with fail
                with_reducible refine (IH.out X A1 V (U ++ (B2 ++ Y)) a i mid HXL.out (by rw [HLL.out.1]; omega) (by rw [HLL.out.2.2.1]; omega) (by rw [HLL.out.1]; omega) (by rw [HLL.out.2.2.1]; omega) (by omega) HSS.out.1 HSS.out.2.2.1 _ _ _ (by omega) (by omega) (by omega) _ HO2.out).mono ?_
                rintro e' w8 ⟨rfl, ho8, hg8⟩
                have HO3 := hide ho8
                have HG3 := hide (gb_trans HG2.out hg8)
                clear ho8 hg8
                go_upto_region 43 with fail
                by_cases h5 : mid < e
                · by_cases h6 : e < b
                  · have z5 : decide ((e : Int) < (b : Int)) = true := by simp; omega
                    have z6 : (mid : Int) < (e : Int) := by omega
                    go_wp2_with fail
                    with_reducible refine (IH.out (X ++ stS (A1 ++ V)) U B2 Y mid e b (by rw [List.length_append, stS_len, List.length_append, HXL.out, HLL.out.1, HLL.out.2.2.1]; omega) (by rw [HLL.out.2.1]; omega) (by rw [HLL.out.2.2.2]; omega) (by rw [HLL.out.2.1]; omega) (by rw [HLL.out.2.2.2]; omega) (by omega) HSS.out.2.1 HSS.out.2.2.2 _ _ _ (by omega) (by omega) (by omega) _ (by have q := HO3.out; simpa only [List.append_assoc] using q)).mono ?_
                    rintro e' w9 ⟨rfl, ho9, hg9⟩
                    have HS := hide (show w9.ownsRow lo 33 4 (.slice (some ⟨g, 0, none⟩) n c) n (rEvent (X ++ (stS (M1 ++ M2) ++ Y))) by rw [← HCUT.out]; simpa only [List.append_assoc] using ho9)
                    have HG9 := hide (gb_trans HG3.out hg9)
                    clear ho9 hg9
                    go_wp2_with fail
                    go_end0
                    exact ⟨rfl, HS.out, HG9.out⟩
                  · have z6 : (mid : Int) < (e : Int) := by omega
                    have z5 : ¬ (e : Int) < (b : Int) := by omega
                    have HS := hide (show w8.ownsRow lo 33 4 (.slice (some ⟨g, 0, none⟩) n c) n (rEvent (X ++ (stS (M1 ++ M2) ++ Y))) by
                      have hub : stS (U ++ B2) = U ++ B2 := stS_id (by
                        rcases Nat.lt_or_ge mid e with h1 | h1
                        · have : B2 = [] := List.eq_nil_of_length_eq_zero (by rw [HLL.out.2.2.2]; omega)
                          rw [this, List.append_nil]; exact HSS.out.2.1
                        · have : U = [] := List.eq_nil_of_length_eq_zero (by rw [HLL.out.2.1]; omega)
                          rw [this]; exact HSS.out.2.2.2)
                      rw [← HCUT.out, hub]
                      simpa only [List.append_assoc] using HO3.out)
                    go_wp2_with fail
                    go_end0
                    exact ⟨rfl, HS.out, HG3.out⟩
                · have z6 : ¬ (mid : Int) < (e : Int) := by omega
                  have HS := hide (show w8.ownsRow lo 33 4 (.slice (some ⟨g, 0, none⟩) n c) n (rEvent (X ++ (stS (M1 ++ M2) ++ Y))) by
                    have hub : stS (U ++ B2) = U ++ B2 := stS_id (by
                      rcases Nat.lt_or_ge mid e with h1 | h1
                      · have : B2 = [] := List.eq_nil_of_length_eq_zero (by rw [HLL.out.2.2.2]; omega)
                        rw [this, List.append_nil]; exact HSS.out.2.1
                      · have : U = [] := List.eq_nil_of_length_eq_zero (by rw [HLL.out.2.1]; omega)
                        rw [this]; exact HSS.out.2.2.2)
                    rw [← HCUT.out, hub]
                    simpa only [List.append_assoc] using HO3.out)
                  go_wp2_with fail
                  go_end0
                  exact ⟨rfl, HS.out, HG3.out⟩
              · have z6 : (a : Int) < (i : Int) := by omega
                have z5 : ¬ (i : Int) < (mid : Int) := by omega
                have HO3 := hide (show w5.ownsRow lo 33 4 (.slice (some ⟨g, 0, none⟩) n c) n (rEvent (X ++ (stS (A1 ++ V) ++ (U ++ (B2 ++ Y))))) by
                  have hav : stS (A1 ++ V) = A1 ++ V := stS_id (by
                    rcases Nat.lt_or_ge a i with h1 | h1
                    · have : V = [] := List.eq_nil_of_length_eq_zero (by rw [HLL.out.2.2.1]; omega)
                      rw [this, List.append_nil]; exact HSS.out.1
                    · have : A1 = [] := List.eq_nil_of_length_eq_zero (by rw [HLL.out.1]; omega)
                      rw [this]; exact HSS.out.2.2.1)
                  rw [hav]
                  simpa only [List.append_assoc] using HO2.out)
                have HG3 := HG2
                clear HG2 HO2
                go_upto_region 43 with fail
                by_cases h5 : mid < e
                · by_cases h6 : e < b
                  · have z5 : decide ((e : Int) < (b : Int)) = true := by simp; omega
                    have z6 : (mid : Int) < (e : Int) := by omega
                    go_wp2_with fail
                    with_reducible refine (IH.out (X ++ stS (A1 ++ V)) U B2 Y mid e b (by rw [List.length_append, stS_len, List.length_append, HXL.out, HLL.out.1, HLL.out.2.2.1]; omega) (by rw [HLL.out.2.1]; omega) (by rw [HLL.out.2.2.2]; omega) (by rw [HLL.out.2.1]; omega) (by rw [HLL.out.2.2.2]; omega) (by omega) HSS.out.2.1 HSS.out.2.2.2 _ _ _ (by omega) (by omega) (by omega) _ (by have q := HO3.out; simpa only [List.append_assoc] using q)).mono ?_
                    rintro e' w9 ⟨rfl, ho9, hg9⟩
                    have HS := hide (show w9.ownsRow lo 33 4 (.slice (some ⟨g, 0, none⟩) n c) n (rEvent (X ++ (stS (M1 ++ M2) ++ Y))) by rw [← HCUT.out]; simpa only [List.append_assoc] using ho9)
                    have HG9 := hide (gb_trans HG3.out hg9)
                    clear ho9 hg9
                    go_wp2_with fail
                    go_end0
                    exact ⟨rfl, HS.out, HG9.out⟩
                  · have z6 : (mid : Int) < (e : Int) := by omega
                    have z5 : ¬ (e : Int) < (b : Int) := by omega
                    have HS := hide (show w5.ownsRow lo 33 4 (.slice (some ⟨g, 0, none⟩) n c) n (rEvent (X ++ (stS (M1 ++ M2) ++ Y))) by
                      have hub : stS (U ++ B2) = U ++ B2 := stS_id (by
                        rcases Nat.lt_or_ge mid e with h1 | h1
                        · have : B2 = [] := List.eq_nil_of_length_eq_zero (by rw [HLL.out.2.2.2]; omega)
                          rw [this, List.append_nil]; exact HSS.out.2.1
                        · have : U = [] := List.eq_nil_of_length_eq_zero (by rw [HLL.out.2.1]; omega)
                          rw [this]; exact HSS.out.2.2.2)
                      rw [← HCUT.out, hub]
                      simpa only [List.append_assoc] using HO3.out)
                    go_wp2_with fail
                    go_end0
                    exact ⟨rfl, HS.out, HG3.out⟩
                · have z6 : ¬ (mid : Int) < (e : Int) := by omega
                  have HS := hide (show w5.ownsRow lo 33 4 (.slice (some ⟨g, 0, none⟩) n c) n (rEvent (X ++ (stS (M1 ++ M2) ++ Y))) by
                    have hub : stS (U ++ B2) = U ++ B2 := stS_id (by
                      rcases Nat.lt_or_ge mid e with h1 | h1
                      · have : B2 = [] := List.eq_nil_of_length_eq_zero (by rw [HLL.out.2.2.2]; omega)
                        rw [this, List.append_nil]; exact HSS.out.2.1
                      · have : U = [] := List.eq_nil_of_length_eq_zero (by rw [HLL.out.2.1]; omega)
                        rw [this]; exact HSS.out.2.2.2)
                    rw [← HCUT.out, hub]
                    simpa only [List.append_assoc] using HO3.out)
                  go_wp2_with fail
                  go_end0
                  exact ⟨rfl, HS.out, HG3.out⟩
            · have z6 : ¬ (a : Int) < (i : Int) := by omega
              have HO3 := hide (show w5.ownsRow lo 33 4 (.slice (some ⟨g, 0, none⟩) n c) n (rEvent (X ++ (stS (A1 ++ V) ++ (U ++ (B2 ++ Y))))) by
                have hav : stS (A1 ++ V) = A1 ++ V := stS_id (by
                  rcases Nat.lt_or_ge a i with h1 | h1
                  · have : V = [] := List.eq_nil_of_length_eq_zero (by rw [HLL.out.2.2.1]; omega)
                    rw [this, List.append_nil]; exact HSS.out.1
                  · have : A1 = [] := List.eq_nil_of_length_eq_zero (by rw [HLL.out.1]; omega)
                    rw [this]; exact HSS.out.2.2.1)
                rw [hav]
                simpa only [List.append_assoc] using HO2.out)
              have HG3 := HG2
              clear HG2 HO2
              go_upto_region 43 with fail
              by_cases h5 : mid < e
              · by_cases h6 : e < b
                · have z5 : decide ((e : Int) < (b : Int)) = true := by simp; omega
                  have z6 : (mid : Int) < (e : Int) := by omega
                  go_wp2_with fail
                  with_reducible refine (IH.out (X ++ stS (A1 ++ V)) U B2 Y mid e b (by rw [List.length_append, stS_len, List.length_append, HXL.out, HLL.out.1, HLL.out.2.2.1]; omega) (by rw [HLL.out.2.1]; omega) (by rw [HLL.out.2.2.2]; omega) (by rw [HLL.out.2.1]; omega) (by rw [HLL.out.2.2.2]; omega) (by omega) HSS.out.2.1 HSS.out.2.2.2 _ _ _ (by omega) (by omega) (by omega) _ (by have q := HO3.out; simpa only [List.append_assoc] using q)).mono ?_
                  rintro e' w9 ⟨rfl, ho9, hg9⟩
                  have HS := hide (show w9.ownsRow lo 33 4 (.slice (some ⟨g, 0, none⟩) n c) n (rEvent (X ++ (stS (M1 ++ M2) ++ Y))) by rw [← HCUT.out]; simpa only [List.append_assoc] using ho9)
                  have HG9 := hide (gb_trans HG3.out hg9)
                  clear ho9 hg9
                  go_wp2_with fail
                  go_end0
                  exact ⟨rfl, HS.out, HG9.out⟩
                · have z6 : (mid : Int) < (e : Int) := by omega
                  have z5 : ¬ (e : Int) < (b : Int) := by omega
                  have HS := hide (show w5.ownsRow lo 33 4 (.slice (some ⟨g, 0, none⟩) n c) n (rEvent (X ++ (stS (M1 ++ M2) ++ Y))) by
                    have hub : stS (U ++ B2) = U ++ B2 := stS_id (by
                      rcases Nat.lt_or_ge mid e with h1 | h1
                      · have : B2 = [] := List.eq_nil_of_length_eq_zero (by rw [HLL.out.2.2.2]; omega)
                        rw [this, List.append_nil]; exact HSS.out.2.1
                      · have : U = [] := List.eq_nil_of_length_eq_zero (by rw [HLL.out.2.1]; omega)
                        rw [this]; exact HSS.out.2.2.2)
                    rw [← HCUT.out, hub]
                    simpa only [List.append_assoc] using HO3.out)
                  go_wp2_with fail
                  go_end0
                  exact ⟨rfl, HS.out, HG3.out⟩
              · have z6 : ¬ (mid : Int) < (e : Int) := by omega
                have HS := hide (show w5.ownsRow lo 33 4 (.slice (some ⟨g, 0, none⟩) n c) n (rEvent (X ++ (stS (M1 ++ M2) ++ Y))) by
                  have hub : stS (U ++ B2) = U ++ B2 := stS_id (by
                    rcases Nat.lt_or_ge mid e with h1 | h1
                    · have : B2 = [] := List.eq_nil_of_length_eq_zero (by rw [HLL.out.2.2.2]; omega)
                      rw [this, List.append_nil]; exact HSS.out.2.1
                    · have : U = [] := List.eq_nil_of_length_eq_zero (by rw [HLL.out.2.1]; omega)
                      rw [this]; exact HSS.out.2.2.2)
                  rw [← HCUT.out, hub]
                  simpa only [List.append_assoc] using HO3.out)
                go_wp2_with fail
                go_end0
                exact ⟨rfl, HS.out, HG3.out⟩
        · have z6 : ¬ (i : Int) < (m : Int) := by omega
          have HO2 := hide (show w5.ownsRow lo 33 4 (.slice (some ⟨g, 0, none⟩) n c) n (rEvent (X ++ (A1 ++ (V ++ (U ++ (B2 ++ Y)))))) by
            have huv : V ++ (U ++ (B2 ++ Y)) = U ++ (V ++ (B2 ++ Y)) := by
              rcases Nat.lt_or_ge i m with h1 | h1
              · have : V = [] := List.eq_nil_of_length_eq_zero (by rw [HLL.out.2.2.1]; omega)
                rw [this]; rfl
              · have : U = [] := List.eq_nil_of_length_eq_zero (by rw [HLL.out.2.1]; omega)
                rw [this]; rfl
            rw [huv]
            exact HO1.out)
          have HG2 := HG
          clear HG HO1
          go_upto_region 41 with fail
          by_cases h3 : a < i
          · by_cases h4 : i < mid
            · have z5 : decide ((i : Int) < (mid : Int)) = true := by simp; omega
              have z6 : (a : Int) < (i : Int) := by omega
              go_wp2_with fail
              with_reducible refine (IH.out X A1 V (U ++ (B2 ++ Y)) a i mid HXL.out (by rw [HLL.out.1]; omega) (by rw [HLL.out.2.2.1]; omega) (by rw [HLL.out.1]; omega) (by rw [HLL.out.2.2.1]; omega) (by omega) HSS.out.1 HSS.out.2.2.1 _ _ _ (by omega) (by omega) (by omega) _ HO2.out).mono ?_
              rintro e' w8 ⟨rfl, ho8, hg8⟩
              have HO3 := hide ho8
              have HG3 := hide (gb_trans HG2.out hg8)
              clear ho8 hg8
              go_upto_region 43 with fail
              by_cases h5 : mid < e
              · by_cases h6 : e < b
                · have z5 : decide ((e : Int) < (b : Int)) = true := by simp; omega
                  have z6 : (mid : Int) < (e : Int) := by omega
                  go_wp2_with fail
                  with_reducible refine (IH.out (X ++ stS (A1 ++ V)) U B2 Y mid e b (by rw [List.length_append, stS_len, List.length_append, HXL.out, HLL.out.1, HLL.out.2.2.1]; omega) (by rw [HLL.out.2.1]; omega) (by rw [HLL.out.2.2.2]; omega) (by rw [HLL.out.2.1]; omega) (by rw [HLL.out.2.2.2]; omega) (by omega) HSS.out.2.1 HSS.out.2.2.2 _ _ _ (by omega) (by omega) (by omega) _ (by have q := HO3.out; simpa only [List.append_assoc] using q)).mono ?_
                  rintro e' w9 ⟨rfl, ho9, hg9⟩
                  have HS := hide (show w9.ownsRow lo 33 4 (.slice (some ⟨g, 0, none⟩) n c) n (rEvent (X ++ (stS (M1 ++ M2) ++ Y))) by rw [← HCUT.out]; simpa only [List.append_assoc] using ho9)
                  have HG9 := hide (gb_trans HG3.out hg9)
                  clear ho9 hg9
                  go_wp2_with fail
                  go_end0
                  exact ⟨rfl, HS.out, HG9.out⟩
                · have z6 : (mid : Int) < (e : Int) := by omega
                  have z5 : ¬ (e : Int) < (b : Int) := by omega
                  have HS := hide (show w8.ownsRow lo 33 4 (.slice (some ⟨g, 0, none⟩) n c) n (rEvent (X ++ (stS (M1 ++ M2) ++ Y))) by
                    have hub : stS (U ++ B2) = U ++ B2 := stS_id (by
                      rcases Nat.lt_or_ge mid e with h1 | h1
                      · have : B2 = [] := List.eq_nil_of_length_eq_zero (by rw [HLL.out.2.2.2]; omega)
                        rw [this, List.append_nil]; exact HSS.out.2.1
                      · have : U = [] := List.eq_nil_of_length_eq_zero (by rw [HLL.out.2.1]; omega)
                        rw [this]; exact HSS.out.2.2.2)
                    rw [← HCUT.out, hub]
                    simpa only [List.append_assoc] using HO3.out)
                  go_wp2_with fail
                  go_end0
                  exact ⟨rfl, HS.out, HG3.out⟩
              · have z6 : ¬ (mid : Int) < (e : Int) := by omega
                have HS := hide (show w8.ownsRow lo 33 4 (.slice (some ⟨g, 0, none⟩) n c) n (rEvent (X ++ (stS (M1 ++ M2) ++ Y))) by
                  have hub : stS (U ++ B2) = U ++ B2 := stS_id (by
                    rcases Nat.lt_or_ge mid e with h1 | h1
                    · have : B2 = [] := List.eq_nil_of_length_eq_zero (by rw [HLL.out.2.2.2]; omega)
                      rw [this, List.append_nil]; exact HSS.out.2.1
                    · have : U = [] := List.eq_nil_of_length_eq_zero (by rw [HLL.out.2.1]; omega)
                      rw [this]; exact HSS.out.2.2.2)
                  rw [← HCUT.out, hub]
                  simpa only [List.append_assoc] using HO3.out)
                go_wp2_with fail
                go_end0
                exact ⟨rfl, HS.out, HG3.out⟩
            · have z6 : (a : Int) < (i : Int) := by omega
              have z5 : ¬ (i : Int) < (mid : Int) := by omega
              have HO3 := hide (show w5.ownsRow lo 33 4 (.slice (some ⟨g, 0, none⟩) n c) n (rEvent (X ++ (stS (A1 ++ V) ++ (U ++ (B2 ++ Y))))) by
                have hav : stS (A1 ++ V) = A1 ++ V := stS_id (by
                  rcases Nat.lt_or_ge a i with h1 | h1
                  · have : V = [] := List.eq_nil_of_length_eq_zero (by rw [HLL.out.2.2.1]; omega)
                    rw [this, List.append_nil]; exact HSS.out.1
                  · have : A1 = [] := List.eq_nil_of_length_eq_zero (by rw [HLL.out.1]; omega)
                    rw [this]; exact HSS.out.2.2.1)
                rw [hav]
                simpa only [List.append_assoc] using HO2.out)
              have HG3 := HG2
              clear HG2 HO2
              go_upto_region 43 with fail
              by_cases h5 : mid < e
              · by_cases h6 : e < b
                · have z5 : decide ((e : Int) < (b : Int)) = true := by simp; omega
                  have z6 : (mid : Int) < (e : Int) := by omega
                  go_wp2_with fail
                  with_reducible refine (IH.out (X ++ stS (A1 ++ V)) U B2 Y mid e b (by rw [List.length_append, stS_len, List.length_append, HXL.out, HLL.out.1, HLL.out.2.2.1]; omega) (by rw [HLL.out.2.1]; omega) (by rw [HLL.out.2.2.2]; omega) (by rw [HLL.out.2.1]; omega) (by rw [HLL.out.2.2.2]; omega) (by omega) HSS.out.2.1 HSS.out.2.2.2 _ _ _ (by omega) (by omega) (by omega) _ (by have q := HO3.out; simpa only [List.append_assoc] using q)).mono ?_
                  rintro e' w9 ⟨rfl, ho9, hg9⟩
                  have HS := hide (show w9.ownsRow lo 33 4 (.slice (some ⟨g, 0, none⟩) n c) n (rEvent (X ++ (stS (M1 ++ M2) ++ Y))) by rw [← HCUT.out]; simpa only [List.append_assoc] using ho9)
                  have HG9 := hide (gb_trans HG3.out hg9)
                  clear ho9 hg9
                  go_wp2_with fail
                  go_end0
                  exact ⟨rfl, HS.out, HG9.out⟩
                · have z6 : (mid : Int) < (e : Int) := by omega
                  have z5 : ¬ (e : Int) < (b : Int) := by omega
                  have HS := hide (show w5.ownsRow lo 33 4 (.slice (some ⟨g, 0, none⟩) n c) n (rEvent (X ++ (stS (M1 ++ M2) ++ Y))) by
                    have hub : stS (U ++ B2) = U ++ B2 := stS_id (by
                      rcases Nat.lt_or_ge mid e with h1 | h1
                      · have : B2 = [] := List.eq_nil_of_length_eq_zero (by rw [HLL.out.2.2.2]; omega)
                        rw [this, List.append_nil]; exact HSS.out.2.1
                      · have : U = [] := List.eq_nil_of_length_eq_zero (by rw [HLL.out.2.1]; omega)
                        rw [this]; exact HSS.out.2.2.2)
                    rw [← HCUT.out, hub]
                    simpa only [List.append_assoc] using HO3.out)
                  go_wp2_with fail
                  go_end0
                  exact ⟨rfl, HS.out, HG3.out⟩
              · have z6 : ¬ (mid : Int) < (e : Int) := by omega
                have HS := hide (show w5.ownsRow lo 33 4 (.slice (some ⟨g, 0, none⟩) n c) n (rEvent (X ++ (stS (M1 ++ M2) ++ Y))) by
                  have hub : stS (U ++ B2) = U ++ B2 := stS_id (by
                    rcases Nat.lt_or_ge mid e with h1 | h1
                    · have : B2 = [] := List.eq_nil_of_length_eq_zero (by rw [HLL.out.2.2.2]; omega)
                      rw [this, List.append_nil]; exact HSS.out.2.1
                    · have : U = [] := List.eq_nil_of_length_eq_zero (by rw [HLL.out.2.1]; omega)
                      rw [this]; exact HSS.out.2.2.2)
                  rw [← HCUT.out, hub]
                  simpa only [List.append_assoc] using HO3.out)
                go_wp2_with fail
                go_end0
                exact ⟨rfl, HS.out, HG3.out⟩
          · have z6 : ¬ (a : Int) < (i : Int) := by omega
            have HO3 := hide (show w5.ownsRow lo 33 4 (.slice (some ⟨g, 0, none⟩) n c) n (rEvent (X ++ (stS (A1 ++ V) ++ (U ++ (B2 ++ Y))))) by
              have hav : stS (A1 ++ V) = A1 ++ V := stS_id (by
                rcases Nat.lt_or_ge a i with h1 | h1
                · have : V = [] := List.eq_nil_of_length_eq_zero (by rw [HLL.out.2.2.1]; omega)
                  rw [this, List.append_nil]; exact HSS.out.1
                · have : A1 = [] := List.eq_nil_of_length_eq_zero (by rw [HLL.out.1]; omega)
                  rw [this]; exact HSS.out.2.2.1)
              rw [hav]
              simpa only [List.append_assoc] using HO2.out)
            have HG3 := HG2
            clear HG2 HO2
            go_upto_region 43 with fail
            by_cases h5 : mid < e
            · by_cases h6 : e < b
              · have z5 : decide ((e : Int) < (b : Int)) = true := by simp; omega
                have z6 : (mid : Int) < (e : Int) := by omega
                go_wp2_with fail
                with_reducible refine (IH.out (X ++ stS (A1 ++ V)) U B2 Y mid e b (by rw [List.length_append, stS_len, List.length_append, HXL.out, HLL.out.1, HLL.out.2.2.1]; omega) (by rw [HLL.out.2.1]; omega) (by rw [HLL.out.2.2.2]; omega) (by rw [HLL.out.2.1]; omega) (by rw [HLL.out.2.2.2]; omega) (by omega) HSS.out.2.1 HSS.out.2.2.2 _ _ _ (by omega) (by omega) (by omega) _ (by have q := HO3.out; simpa only [List.append_assoc] using q)).mono ?_
                rintro e' w9 ⟨rfl, ho9, hg9⟩
                have HS := hide (show w9.ownsRow lo 33 4 (.slice (some ⟨g, 0, none⟩) n c) n (rEvent (X ++ (stS (M1 ++ M2) ++ Y))) by rw [← HCUT.out]; simpa only [List.append_assoc] using ho9)
                have HG9 := hide (gb_trans HG3.out hg9)
                clear ho9 hg9
                go_wp2_with fail
                go_end0
                exact ⟨rfl, HS.out, HG9.out⟩
              · have z6 : (mid : Int) < (e : Int) := by omega
                have z5 : ¬ (e : Int) < (b : Int) := by omega
                have HS := hide (show w5.ownsRow lo 33 4 (.slice (some ⟨g, 0, none⟩) n c) n (rEvent (X ++ (stS (M1 ++ M2) ++ Y))) by
                  have hub : stS (U ++ B2) = U ++ B2 := stS_id (by
                    rcases Nat.lt_or_ge mid e with h1 | h1
                    · have : B2 = [] := List.eq_nil_of_length_eq_zero (by rw [HLL.out.2.2.2]; omega)
                      rw [this, List.append_nil]; exact HSS.out.2.1
                    · have : U = [] := List.eq_nil_of_length_eq_zero (by rw [HLL.out.2.1]; omega)
                      rw [this]; exact HSS.out.2.2.2)
                  rw [← HCUT.out, hub]
                  simpa only [List.append_assoc] using HO3.out)
                go_wp2_with fail
                go_end0
                exact ⟨rfl, HS.out, HG3.out⟩
            · have z6 : ¬ (mid : Int) < (e : Int) := by omega
              have HS := hide (show w5.ownsRow lo 33 4 (.slice (some ⟨g, 0, none⟩) n c) n (rEvent (X ++ (stS (M1 ++ M2) ++ Y))) by
                have hub : stS (U ++ B2) = U ++ B2 := stS_id (by
                  rcases Nat.lt_or_ge mid e with h1 | h1
                  · have : B2 = [] := List.eq_nil_of_length_eq_zero (by rw [HLL.out.2.2.2]; omega)
                    rw [this, List.append_nil]; exact HSS.out.2.1
                  · have : U = [] := List.eq_nil_of_length_eq_zero (by rw [HLL.out.2.1]; omega)
                    rw [this]; exact HSS.out.2.2.2)
                rw [← HCUT.out, hub]
                simpa only [List.append_assoc] using HO3.out)
              go_wp2_with fail
              go_end0
              exact ⟨rfl, HS.out, HG3.out⟩

theorem symMerge_all (g n c lo : Nat) (hn : n ≤ 4096) : ∀ d, SymOk g n c lo d := by
  intro d
  induction d with
  | zero =>
    intro X M1 M2 Y a m b ha hm hb h1 h2 hd
    omega
  | succ d ih =>
    intro X M1 M2 Y a m b ha hm hb h1 h2 hd hs1 hs2 xa xm xb ea em eb w h
    subst ea em eb
    by_cases k1 : M1.length = 1
    · obtain ⟨x, rfl⟩ := List.length_eq_one_iff.1 k1
      have hl : [x].length = 1 := rfl
      exact symMerge_one g n c lo X M2 Y x a m b ha (by omega) (by omega) hb hs2 hn w h
    · by_cases k2 : M2.length = 1
      · obtain ⟨x, rfl⟩ := List.length_eq_one_iff.1 k2
        have hl : [x].length = 1 := rfl
        exact symMerge_two g n c lo X M1 Y x a m b ha hm (by omega) (by omega) (by omega) hs1 hn w h
      · exact symMerge_step g n c lo d hn ih X M1 M2 Y a m b ha hm hb (by omega) (by omega) hd hs1 hs2 w h
end Go.Proofs.Ytdmhoabidlagmaa
