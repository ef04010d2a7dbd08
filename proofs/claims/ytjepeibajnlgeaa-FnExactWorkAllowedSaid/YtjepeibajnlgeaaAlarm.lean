/-
  TIMES WHEN WORK MUST STOP: the reference's and the program's. No condition but those that each theorem names.
-/
import Derived.Test.YtjepeibajnlgeaaGrow
import Derived.Test.YtjepeibajnlgeaaFamSInt64
import Derived.Test.YtjepeibajnlgeaaReadOk
namespace Go.Proofs.Ytjepeibajnlgeaa
open Go.RowKit
set_option linter.unusedVariables false

abbrev Prs := List (Int × Int)
def lastP (a : Prs) : Int × Int := a.getD (a.length - 1) (0, 0)
def almStep (limit calm : Int) (a : Prs) (r : Int × Int) : Prs :=
  if r.2 ≤ limit then a else if 0 < a.length ∧ r.1 ≤ (lastP a).2 then a.set (a.length - 1) ((lastP a).1, r.1 + calm) else a ++ [(r.1, r.1 + calm)]
def almTo (limit calm : Int) (l : Prs) (k : Nat) : Prs := (l.take k).foldl (almStep limit calm) []
def alm (limit calm : Int) (l : Prs) : Prs := almTo limit calm l l.length
theorem almTo_succ (limit calm : Int) (l : Prs) (k : Nat) (h : k < l.length) : almTo limit calm l (k + 1) = almStep limit calm (almTo limit calm l k) l[k] := by
  unfold almTo
  rw [List.take_succ_eq_append_getElem h, List.foldl_append]
  rfl
theorem almStep_len (limit calm : Int) (a : Prs) (r : Int × Int) : (almStep limit calm a r).length ≤ a.length + 1 := by
  unfold almStep; split
  · omega
  · split <;> simp
theorem almTo_len (limit calm : Int) (l : Prs) (k : Nat) : (almTo limit calm l k).length ≤ k := by
  induction k with
  | zero => simp [almTo]
  | succ k ih =>
    rcases Nat.lt_or_ge k l.length with h | h
    · rw [almTo_succ _ _ _ _ h]
      have := almStep_len limit calm (almTo limit calm l k) l[k]
      omega
    · have : almTo limit calm l (k + 1) = almTo limit calm l k := by unfold almTo; rw [List.take_of_length_le h, List.take_of_length_le (by omega)]
      rw [this]; omega
def cP (p : Int × Int) : List Value := [.int .i64 p.1, .int .i64 p.2]
def rP (a : Prs) : List (List Value) := a.map cP
theorem rP_len (a : Prs) : (rP a).length = a.length := by simp [rP]
theorem rP_at (a : Prs) (i : Nat) (h : i < a.length) : (rP a).getD i [] = cP a[i] := by simp [rP, List.getD, h]
theorem rP_last (a : Prs) (h : 0 < a.length) : (rP a).getD (a.length - 1) [] = cP (lastP a) := by
  rw [rP_at a _ (by omega)]; unfold lastP; simp [List.getD, show a.length - 1 < a.length by omega]
theorem rP_lastm {a : Prs} {m : Nat} (hm : a.length = m) (h : 0 < m) : (rP a).getD (m - 1) [] = cP (lastP a) := by subst hm; exact rP_last a h
theorem rP_snoc (a : Prs) (p : Int × Int) : rP (a ++ [p]) = rP a ++ [cP p] := by simp [rP]
theorem rP_set (a : Prs) (i : Nat) (p : Int × Int) : rP (a.set i p) = (rP a).set i (cP p) := by simp [rP]
theorem al_skip {limit calm : Int} {l : Prs} {k : Nat} (h : k < l.length) (h1 : l[k].2 ≤ limit) : almTo limit calm l (k + 1) = almTo limit calm l k := by
  rw [almTo_succ _ _ _ _ h]; simp [almStep, h1]
theorem al_more {limit calm : Int} {l : Prs} {k : Nat} (h : k < l.length) (h1 : ¬ l[k].2 ≤ limit) (h2 : ¬ (0 < (almTo limit calm l k).length ∧ l[k].1 ≤ (lastP (almTo limit calm l k)).2)) : almTo limit calm l (k + 1) = almTo limit calm l k ++ [(l[k].1, l[k].1 + calm)] := by
  rw [almTo_succ _ _ _ _ h]; unfold almStep; rw [if_neg h1, if_neg h2]
theorem al_join {limit calm : Int} {l : Prs} {k : Nat} (h : k < l.length) (h1 : ¬ l[k].2 ≤ limit) (h2 : 0 < (almTo limit calm l k).length) (h3 : l[k].1 ≤ (lastP (almTo limit calm l k)).2) : almTo limit calm l (k + 1) = (almTo limit calm l k).set ((almTo limit calm l k).length - 1) ((lastP (almTo limit calm l k)).1, l[k].1 + calm) := by
  rw [almTo_succ _ _ _ _ h]; unfold almStep; rw [if_neg h1, if_pos ⟨h2, h3⟩]
def alCode (l : Prs) (limit calm : Int) : Int := if validR l = true then if inR limit 0 600 = true then if inR calm 0 3600 = true then 0 else 2 else 2 else 1

set_option maxHeartbeats 1000000 in
theorem l21Alarm_any (A : Option Addr) (n c lo hi : Nat) (l : Prs) (limit calm : Int) (hn : n ≤ 1048576) (w : World) (hl : l.length = n) (h : Rd w lo hi 2 A n (rReading l)) (hhi : hi ≤ w.heap.size) :
    Calls Try.prog 47 #[.slice A n c, .int .i64 limit, .int .i64 calm] w fun e w' => e = .returned (.int .i64 (alCode l limit calm)) ∧ Below w.heap.size w w' := by
  have H := hide h
  have HL := hide hl
  clear h hl
  unfold alCode
  cases e1 : validR l
  · go_enter Try.func47, Try.ntmps47
    go_wp2_with (first | (go_at_call 31; refine (l21Ok_any A n c lo hi l hn _ HL.out H.out hhi).mono ?_; rintro e w1 ⟨rfl, hb1⟩; rw [e1]) | (go_at_call 38; refine (l21Speed_any _ _).mono ?_; rintro e w' ⟨rfl, hw⟩; obtain rfl := hw.symm) | (go_at_call 45; refine (l00In_any _ _ _ _).mono ?_; rintro e w' ⟨rfl, hw⟩; obtain rfl := hw.symm))
    go_ret
    exact ⟨ret_int (by simp), hb1⟩
  · cases e2 : inR limit 0 600
    all_goals cases e3 : inR calm 0 3600
    all_goals
      go_enter Try.func47, Try.ntmps47
      go_wp2_with (first | (go_at_call 31; refine (l21Ok_any A n c lo hi l hn _ HL.out H.out hhi).mono ?_; rintro e w1 ⟨rfl, hb1⟩; rw [e1]) | (go_at_call 38; refine (l21Speed_any _ _).mono ?_; rintro e w' ⟨rfl, hw⟩; obtain rfl := hw.symm) | (go_at_call 45; refine (l00In_any _ _ _ _).mono ?_; rintro e w' ⟨rfl, hw⟩; obtain rfl := hw.symm))
      go_ret
      exact ⟨ret_int (by simp), hb1⟩

set_option maxHeartbeats 1000000 in
theorem alarmCode_any (A : Option Addr) (n c lo hi : Nat) (l : Prs) (limit calm : Int) (hn : n ≤ 1048576) (w : World) (hl : l.length = n) (h : Rd w lo hi 2 A n (rReading l)) (hhi : hi ≤ w.heap.size) :
    Calls Try.prog 49 #[.slice A n c, .int .i64 limit, .int .i64 calm] w fun e w' => e = .returned (.int .i64 (alCode l limit calm)) ∧ Below w.heap.size w w' := by
  have H := hide h
  have HL := hide hl
  clear h hl
  unfold alCode
  cases e1 : validR l
  · go_enter Try.func49, Try.ntmps49
    go_wp2_with (first | (go_at_call 33; refine (ValidReadings_any A n c lo hi l hn _ HL.out H.out hhi).mono ?_; rintro e w1 ⟨rfl, hb1⟩; rw [e1]) | (go_at_call 37; refine (within_any _ _ _ _).mono ?_; rintro e w' ⟨rfl, hw⟩; obtain rfl := hw.symm))
    go_ret
    exact ⟨ret_int (by simp), hb1⟩
  · cases e2 : inR limit 0 600
    all_goals cases e3 : inR calm 0 3600
    all_goals
      go_enter Try.func49, Try.ntmps49
      go_wp2_with (first | (go_at_call 33; refine (ValidReadings_any A n c lo hi l hn _ HL.out H.out hhi).mono ?_; rintro e w1 ⟨rfl, hb1⟩; rw [e1]) | (go_at_call 37; refine (within_any _ _ _ _).mono ?_; rintro e w' ⟨rfl, hw⟩; obtain rfl := hw.symm))
      go_ret
      exact ⟨ret_int (by simp), hb1⟩

theorem news_at (w : World) (v : Value) (T : TypeId) (b : Nat) (hb : b = w.heap.size) : ∀ (j : Nat) (u : Value), [v][j]? = some u → (w.alloc (.cells #[v] T)).cell? ((⟨b, 0, none⟩ : Addr).add j) = some u := by
  subst hb
  exact cell_one_new _ _ _

set_option maxRecDepth 100000 in
set_option maxHeartbeats 4000000 in
theorem l21Times_any (A : Option Addr) (n c lo hi : Nat) (l : Prs) (limit calm : Int) (hn : n ≤ 1048576) (hv : ∀ k (hk : k < l.length), 0 ≤ l[k].1 ∧ l[k].1 ≤ 1000000) (hc0 : 0 ≤ calm) (hc1 : calm ≤ 3600) (w : World) (hl : l.length = n) (h : Rd w lo hi 2 A n (rReading l)) (hhi : hi ≤ w.heap.size) :
    Calls Try.prog 48 #[.slice A n c, .int .i64 limit, .int .i64 calm] w fun e w' => ∃ v, e = .returned v ∧ OwnSS w' w.heap.size w'.heap.size 61 2 v (alm limit calm l).length (rP (alm limit calm l)) ∧ Below w.heap.size w w' := by
  obtain ⟨i0, hi0, hz0, hz1, hz2⟩ := info_parts infoSInt64
  have I := hide (And.intro hi0 (And.intro hz0 (And.intro hz1 hz2)))
  have H1 := hide hl
  have H2 := hide h
  have HV := hide hv
  have HNE : Hid ((61 : TypeId) ≠ 2) := hide (by decide)
  clear hi0 hz0 hz1 hz2 hl h hv
  go_enter Try.func48, Try.ntmps48
  go_wp2
  go_loopw [7, 8] (fun v i wr => ∃ k m : Nat, k ≤ n ∧ i = .int .i64 k ∧ Hid ((almTo limit calm l k).length = m) ∧ Hid (OwnSS wr w.heap.size wr.heap.size 61 2 v m (rP (almTo limit calm l k))) ∧ Below w.heap.size w wr) (fun _ i _ => n - (intOf i).toNat)
  case atStart => exact ⟨0, 0, by omega, rfl, hide rfl, hide ⟨[], Own.of_owns (World.ownsRow_made _ _ 0 (Nat.le_refl _) (Nat.zero_le _) rfl), Rows.nil _ _ _ _⟩, (Below.refl _ _).alloc (Nat.le_refl _) _⟩
  case round =>
    obtain ⟨k, m, hk, rfl, HM, HO, hbr⟩ := hrel
    by_cases hlt : k < n
    · have hlen : k < l.length := by rw [H1.out]; exact hlt
      obtain ⟨t0, t1⟩ := rReading_at l k hlen
      obtain ⟨b, off, rfl, hb1', hb2', hc⟩ := H2.out.2 (by omega)
      have c0 : wr.cell? ⟨b, off + k * 2, none⟩ = some (.int .i64 l[k].1) := (hbr.cell (p := ⟨b, _, none⟩) (by show b < _; omega)).trans (hc _ _ t0)
      have c1 : wr.cell? ⟨b, off + k * 2 + 1, none⟩ = some (.int .i64 l[k].2) := (hbr.cell (p := ⟨b, _, none⟩) (by show b < _; omega)).trans (hc _ _ t1)
      have hbl : b < wr.heap.size := by have := hbr.size; omega
      have hsz := hbr.size
      obtain ⟨p0, p1⟩ := HV.out k hlen
      have hml : m ≤ k := by rw [← HM.out]; exact almTo_len limit calm l k
      clear t0 t1 hc
      by_cases h1 : l[k].2 ≤ limit
      · have E := hide (al_skip (calm := calm) hlen h1)
        generalize l[k].1 = p at *
        generalize l[k].2 = q at *
        go_wp2_with fail
        go_roundw
        case rel => exact ⟨k + 1, m, by omega, by go_num, by rw [E.out]; exact HM, by rw [E.out]; exact HO, hbr⟩
        case measure => simp [intOf]; omega
      · by_cases h2 : 0 < m
        · have hpos : 0 < ((rP (almTo limit calm l k)).getD (m - 1) []).length := by rw [rP_lastm HM.out h2]; simp [cP]
          obtain ⟨gv, cv, g, cg, rfl, v1, v2, g1, g2, kc, kf, kr, krf, kput, krep⟩ := HO.out.row_ HNE.out (Nat.le_refl _) (i := m - 1) (by omega) hpos
          rw [rP_lastm HM.out h2] at kc kr kput
          obtain ⟨⟨u, t⟩, hut⟩ : ∃ x, lastP (almTo limit calm l k) = x := ⟨_, rfl⟩
          rw [hut] at kc kr kput
          have r0 : wr.cell? ⟨g, 0, none⟩ = some (.int .i64 u) := kr 0 _ rfl
          have r1 : wr.cell? ⟨g, 1, none⟩ = some (.int .i64 t) := kr 1 _ rfl
          have rf := krf 1
          have vf := kf (m - 1)
          have KP := hide (kput 1)
          have KR := hide (krep)
          have HT := hide hut
          change wr.cell? ⟨gv, m - 1, none⟩ = some (.slice (some ⟨g, 0, none⟩) 2 cg) at kc
          clear kr krf kput krep kf hut hpos
          by_cases h3 : l[k].1 ≤ t
          · have E := hide (al_join (calm := calm) hlen h1 (by rw [HM.out]; exact h2) (by rw [HT.out]; exact h3))
            generalize l[k].1 = p at *
            generalize l[k].2 = q at *
            go_wp2_with fail
            go_roundw
            case rel =>
              refine ⟨k + 1, m, by omega, by go_num, hide (by rw [E.out, List.length_set]; exact HM.out), ?_, (hbr.setCell (by show _ ≤ gv; omega) _).alloc (by simp [World.setCell]; omega) _⟩
              rw [E.out, rP_set, HM.out, HT.out]
              have z := KR.out (cP (u, p + calm)) (by simp [cP, maxLen])
              rw [World.setCell_alloc_past (w := wr) (hn := show gv < wr.heap.size by omega)] at z
              exact hide (z.mono (Nat.le_refl _) (by simp [World.setCell]))
            case measure => simp [intOf]; omega
          · have E := hide (al_more (calm := calm) hlen h1 (fun h => h3 (by rw [HT.out] at h; exact h.2)))
            generalize l[k].1 = p at *
            generalize l[k].2 = q at *
            obtain ⟨us, ho, hro⟩ := HO.out
            have HOO := hide ho
            have HRO := hide hro
            clear ho hro
            go_wp2_with (at_builtin; refine wpList_append_own _ rfl (.tmp 62) (.tmp 66) 45 rfl w.heap.size 61 i0 (.slice none 0 0) 1 24 Try.underlying45 I.out.1 I.out.2.1 I.out.2.2.1 I.out.2.2.2 rfl (by decide) _ m us rfl ((HOO.out.1.alloc _).alloc _) ⟨wr.heap.size + 1, 0, none⟩ 1 1 [.slice (some ⟨wr.heap.size + 0, 0, none⟩) 2 2] rfl rfl (news_at _ _ _ _ (by simp)) (by simp [Value.oneCell']) (by unfold maxLen; omega) (by omega) (by simp; omega) ?_; intro v' wn hown' hgrow _)
            go_roundw
            case rel =>
              refine ⟨k + 1, m + 1, by omega, by go_num, hide (by rw [E.out, List.length_append, HM.out]; rfl), ?_, ?_⟩
              · rw [E.out, rP_snoc]
                exact hide (ss_snoc (r := cP (p, p + calm)) HNE.out HOO.out HRO.out (Nat.le_trans hsz (by simp)) (by simp [cP, maxLen]) hgrow hown')
              · exact (((hbr.alloc hsz _).alloc (by simp; omega) _)).grown hgrow (by simp; omega) (fun g hg => (HOO.out.lt g hg).1)
            case measure => simp [intOf]; omega
        · have E := hide (al_more (calm := calm) hlen h1 (fun h => h2 (by rw [← HM.out]; exact h.1)))
          generalize l[k].1 = p at *
          generalize l[k].2 = q at *
          obtain rfl : m = 0 := by omega
          obtain ⟨us, ho, hro⟩ := HO.out
          obtain ⟨Av, cv, rfl, hncv, hcmv, _⟩ := ho.rd
          have HOO := hide ho
          have HRO := hide hro
          clear ho hro h2
          go_wp2_with (at_builtin; refine wpList_append_own _ rfl (.tmp 62) (.tmp 66) 45 rfl w.heap.size 61 i0 (.slice none 0 0) 1 24 Try.underlying45 I.out.1 I.out.2.1 I.out.2.2.1 I.out.2.2.2 rfl (by decide) _ 0 us rfl ((HOO.out.1.alloc _).alloc _) ⟨wr.heap.size + 1, 0, none⟩ 1 1 [.slice (some ⟨wr.heap.size + 0, 0, none⟩) 2 2] rfl rfl (news_at _ _ _ _ (by simp)) (by simp [Value.oneCell']) (by unfold maxLen; omega) (by omega) (by simp; omega) ?_; intro v' wn hown' hgrow _)
          go_roundw
          case rel =>
            refine ⟨k + 1, 0 + 1, by omega, by go_num, hide (by rw [E.out, List.length_append, HM.out]; rfl), ?_, ?_⟩
            · rw [E.out, rP_snoc]
              exact hide (ss_snoc (r := cP (p, p + calm)) HNE.out HOO.out HRO.out (Nat.le_trans hsz (by simp)) (by simp [cP, maxLen]) hgrow hown')
            · exact (((hbr.alloc hsz _).alloc (by simp; omega) _)).grown hgrow (by simp; omega) (fun g hg => (HOO.out.lt g hg).1)
          case measure => simp [intOf]; omega
    · obtain rfl : k = n := by omega
      go_wp2
      go_ret
      exact ⟨_, rfl, by unfold alm; rw [H1.out, HM.out]; exact HO.out, hbr⟩

theorem grown_drewN {w w1 : World} {a : Nat} {row : Option Nat} (h : (w.drewN a).grownBy w1 row) : w.grownBy w1 row := ⟨h.os, h.tape, h.output, h.size, h.block⟩

theorem ss_put_later {wr : World} {g i k lo m : Nat} {x v : Value} {o : Obj} {T E : TypeId} {rs : List (List Value)} (hg : g < wr.heap.size) (z : OwnSS (wr.setCell ⟨g, i, none⟩ x) lo wr.heap.size T E v m rs) :
    OwnSS (((wr.alloc o).drewN k).setCell ⟨g, i, none⟩ x) lo (((wr.alloc o).drewN k).setCell ⟨g, i, none⟩ x).heap.size T E v m rs := by
  have e : ((wr.alloc o).drewN k).setCell ⟨g, i, none⟩ x = ((wr.setCell ⟨g, i, none⟩ x).alloc o).drewN k := by
    rw [← World.setCell_alloc_past (hn := hg)]; rfl
  rw [e]
  have hs : (wr.setCell ⟨g, i, none⟩ x).heap.size = wr.heap.size := by simp [World.setCell]
  have hb : Below wr.heap.size (wr.setCell ⟨g, i, none⟩ x) (((wr.setCell ⟨g, i, none⟩ x).alloc o).drewN k) := ((Below.refl _ _).alloc (by rw [hs]; exact Nat.le_refl _) _).trans (Joins.below_draws _ _ _)
  refine (z.below hb (Nat.le_refl _)).mono (Nat.le_refl _) ?_
  have := hb.size
  omega

set_option maxRecDepth 100000 in
set_option maxHeartbeats 4000000 in
theorem alarms_any (A : Option Addr) (n c lo hi : Nat) (l : Prs) (limit calm : Int) (hn : n ≤ 1048576) (hv : ∀ k (hk : k < l.length), 0 ≤ l[k].1 ∧ l[k].1 ≤ 1000000) (hc0 : 0 ≤ calm) (hc1 : calm ≤ 3600) (w : World) (hl : l.length = n) (h : Rd w lo hi 2 A n (rReading l)) (hhi : hi ≤ w.heap.size) :
    Calls Try.prog 51 #[.slice A n c, .int .i64 limit, .int .i64 calm] w fun e w' => ∃ v, e = .returned v ∧ OwnSS w' w.heap.size w'.heap.size 61 2 v (alm limit calm l).length (rP (alm limit calm l)) ∧ Below w.heap.size w w' := by
  obtain ⟨i0, hi0, hz0, hz1, hz2⟩ := info_parts infoSInt64
  have I := hide (And.intro hi0 (And.intro hz0 (And.intro hz1 hz2)))
  have H1 := hide hl
  have H2 := hide h
  have HV := hide hv
  have HNE : Hid ((61 : TypeId) ≠ 2) := hide (by decide)
  clear hi0 hz0 hz1 hz2 hl h hv
  go_enter Try.func51, Try.ntmps51
  go_wp2
  go_loopw [7, 13] (fun v i wr => ∃ k m : Nat, k ≤ n ∧ i = .int .i64 k ∧ Hid ((almTo limit calm l k).length = m) ∧ Hid (OwnSS wr w.heap.size wr.heap.size 61 2 v m (rP (almTo limit calm l k))) ∧ Below w.heap.size w wr) (fun _ i _ => n - (intOf i).toNat)
  case atStart => exact ⟨0, 0, by omega, rfl, hide rfl, hide ⟨[], ⟨World.ownsRow_nil _ _ _ _, fun g hg => by simp [Value.ownBlock] at hg⟩, Rows.nil _ _ _ _⟩, Below.refl _ _⟩
  case round =>
    obtain ⟨k, m, hk, rfl, HM, HO, hbr⟩ := hrel
    by_cases hlt : k < n
    · have hlen : k < l.length := by rw [H1.out]; exact hlt
      obtain ⟨t0, t1⟩ := rReading_at l k hlen
      obtain ⟨b, off, rfl, hb1', hb2', hc⟩ := H2.out.2 (by omega)
      have c0 : wr.cell? ⟨b, off + k * 2, none⟩ = some (.int .i64 l[k].1) := (hbr.cell (p := ⟨b, _, none⟩) (by show b < _; omega)).trans (hc _ _ t0)
      have c1 : wr.cell? ⟨b, off + k * 2 + 1, none⟩ = some (.int .i64 l[k].2) := (hbr.cell (p := ⟨b, _, none⟩) (by show b < _; omega)).trans (hc _ _ t1)
      have hbl : b < wr.heap.size := by have := hbr.size; omega
      have hsz := hbr.size
      obtain ⟨p0, p1⟩ := HV.out k hlen
      have hml : m ≤ k := by rw [← HM.out]; exact almTo_len limit calm l k
      clear t0 t1 hc
      by_cases h1 : l[k].2 ≤ limit
      · have E := hide (al_skip (calm := calm) hlen h1)
        generalize l[k].1 = p at *
        generalize l[k].2 = q at *
        go_wp2_with fail
        go_roundw
        case rel => exact ⟨k + 1, m, by omega, by go_num, by rw [E.out]; exact HM, by rw [E.out]; exact hide ((HO.out.below ((Below.refl _ _).alloc (Nat.le_refl _) _) (Nat.le_refl _)).mono (Nat.le_refl _) (by simp)), hbr.alloc hsz _⟩
        case measure => simp [intOf]; omega
      · by_cases h2 : 0 < m
        · have hpos : 0 < ((rP (almTo limit calm l k)).getD (m - 1) []).length := by rw [rP_lastm HM.out h2]; simp [cP]
          obtain ⟨gv, cv, g, cg, rfl, v1, v2, g1, g2, kc, kf, kr, krf, kput, krep⟩ := HO.out.row_ HNE.out (Nat.le_refl _) (i := m - 1) (by omega) hpos
          rw [rP_lastm HM.out h2] at kc kr kput
          obtain ⟨⟨u, t⟩, hut⟩ : ∃ x, lastP (almTo limit calm l k) = x := ⟨_, rfl⟩
          rw [hut] at kc kr kput
          have r0 : wr.cell? ⟨g, 0, none⟩ = some (.int .i64 u) := kr 0 _ rfl
          have r1 : wr.cell? ⟨g, 1, none⟩ = some (.int .i64 t) := kr 1 _ rfl
          have rf := krf 1
          have vf := kf (m - 1)
          have KP := hide (kput 1)
          have KR := hide (krep)
          have HT := hide hut
          change wr.cell? ⟨gv, m - 1, none⟩ = some (.slice (some ⟨g, 0, none⟩) 2 cg) at kc
          clear kr krf kput krep kf hut hpos
          by_cases h3 : l[k].1 ≤ t
          · have E := hide (al_join (calm := calm) hlen h1 (by rw [HM.out]; exact h2) (by rw [HT.out]; exact h3))
            generalize l[k].1 = p at *
            generalize l[k].2 = q at *
            have b1 : (0 : Int) ≤ (m : Int) - 1 := by omega
            have b2 : (m : Int) - 1 < (m : Int) := by omega
            go_wp2_with fail
            go_quiet (fail)
            go_wp2_with fail
            go_region
            all_goals go_wp2_with fail
            go_roundw
            case rel =>
              refine ⟨k + 1, m, by omega, by go_num, hide (by rw [E.out, List.length_set]; exact HM.out), ?_, ((hbr.alloc hsz _).trans (Joins.below_draws _ _ _)).setCell (by show _ ≤ g; omega) _⟩
              rw [E.out, rP_set, HM.out, HT.out]
              exact hide (ss_put_later g2 (KP.out (.int .i64 (p + calm))))
            case measure => simp [intOf]; omega
          · have E := hide (al_more (calm := calm) hlen h1 (fun h => h3 (by rw [HT.out] at h; exact h.2)))
            generalize l[k].1 = p at *
            generalize l[k].2 = q at *
            obtain ⟨us, ho, hro⟩ := HO.out
            have HOO := hide ho
            have HRO := hide hro
            clear ho hro
            have b1 : (0 : Int) ≤ (m : Int) - 1 := by omega
            have b2 : (m : Int) - 1 < (m : Int) := by omega
            go_wp2_with fail
            go_quiet (fail)
            generalize hqq : World.drewN (wr.alloc (.cells #[.int .i64 p, .int .i64 q] 53)) _ = wq
            have hbq : Below wr.heap.size wr wq := by rw [← hqq]; exact ((Below.refl _ _).alloc (Nat.le_refl _) _).trans (Joins.below_draws _ _ _)
            have hsq : wr.heap.size + 1 ≤ wq.heap.size := by rw [← hqq]; show wr.heap.size + 1 ≤ (World.alloc wr _).heap.size; simp
            have q0 : wq.cell? ⟨wr.heap.size, 0, none⟩ = some (.int .i64 p) := by rw [← hqq]; exact new_cell wr #[.int .i64 p, .int .i64 q] _ 0
            have q1 : wq.cell? ⟨wr.heap.size, 1, none⟩ = some (.int .i64 q) := by rw [← hqq]; exact new_cell wr #[.int .i64 p, .int .i64 q] _ 1
            clear hqq
            have HOQ := hide ((HOO.out.below hbq (Nat.le_refl _)).mono (Nat.le_refl _) (show wr.heap.size ≤ wq.heap.size by omega))
            have HRQ := hide ((HRO.out.below hbq (Nat.le_refl _)).mono (Nat.le_refl _) (show wr.heap.size ≤ wq.heap.size by omega))
            have hbw := hbr.trans (hbq.mono hsz)
            have hszq : w.heap.size ≤ wq.heap.size := by omega
            have hwl : wr.heap.size < wq.heap.size := by omega
            clear hbr hbq
            go_wp2_with (at_builtin; refine wpList_append_own _ rfl (.tmp 47) (.tmp 55) 45 rfl w.heap.size 61 i0 (.slice none 0 0) 1 24 Try.underlying45 I.out.1 I.out.2.1 I.out.2.2.1 I.out.2.2.2 rfl (by decide) _ m us rfl ((HOQ.out.1.alloc _).alloc _) ⟨wq.heap.size + 1, 0, none⟩ 1 1 [.slice (some ⟨wq.heap.size + 0, 0, none⟩) 2 2] rfl rfl (news_at _ _ _ _ (by simp)) (by simp [Value.oneCell']) (by unfold maxLen; omega) (by omega) (by simp; omega) ?_; intro v' wn hown' hgrow _)
            go_roundw
            case rel =>
              refine ⟨k + 1, m + 1, by omega, by go_num, hide (by rw [E.out, List.length_append, HM.out]; rfl), ?_, ?_⟩
              · rw [E.out, rP_snoc]
                exact hide (ss_snoc (r := cP (p, p + calm)) HNE.out HOQ.out HRQ.out (hszq) (by simp [cP, maxLen]) hgrow hown')
              · exact (((hbw.alloc hszq _).alloc (by simp; omega) _)).grown hgrow (by simp; omega) (fun g hg => (HOQ.out.lt g hg).1)
            case measure => simp [intOf]; omega
        · have E := hide (al_more (calm := calm) hlen h1 (fun h => h2 (by rw [← HM.out]; exact h.1)))
          generalize l[k].1 = p at *
          generalize l[k].2 = q at *
          obtain rfl : m = 0 := by omega
          obtain ⟨us, ho, hro⟩ := HO.out
          obtain ⟨Av, cv, rfl, hncv, hcmv, _⟩ := ho.rd
          have HOO := hide ho
          have HRO := hide hro
          clear ho hro h2
          go_wp2_with fail
          go_quiet (fail)
          generalize hqq : World.drewN (wr.alloc (.cells #[.int .i64 p, .int .i64 q] 53)) _ = wq
          have hbq : Below wr.heap.size wr wq := by rw [← hqq]; exact ((Below.refl _ _).alloc (Nat.le_refl _) _).trans (Joins.below_draws _ _ _)
          have hsq : wr.heap.size + 1 ≤ wq.heap.size := by rw [← hqq]; show wr.heap.size + 1 ≤ (World.alloc wr _).heap.size; simp
          have q0 : wq.cell? ⟨wr.heap.size, 0, none⟩ = some (.int .i64 p) := by rw [← hqq]; exact new_cell wr #[.int .i64 p, .int .i64 q] _ 0
          have q1 : wq.cell? ⟨wr.heap.size, 1, none⟩ = some (.int .i64 q) := by rw [← hqq]; exact new_cell wr #[.int .i64 p, .int .i64 q] _ 1
          clear hqq
          have HOQ := hide ((HOO.out.below hbq (Nat.le_refl _)).mono (Nat.le_refl _) (show wr.heap.size ≤ wq.heap.size by omega))
          have HRQ := hide ((HRO.out.below hbq (Nat.le_refl _)).mono (Nat.le_refl _) (show wr.heap.size ≤ wq.heap.size by omega))
          have hbw := hbr.trans (hbq.mono hsz)
          have hszq : w.heap.size ≤ wq.heap.size := by omega
          have hwl : wr.heap.size < wq.heap.size := by omega
          clear hbr hbq
          go_wp2_with (at_builtin; refine wpList_append_own _ rfl (.tmp 47) (.tmp 55) 45 rfl w.heap.size 61 i0 (.slice none 0 0) 1 24 Try.underlying45 I.out.1 I.out.2.1 I.out.2.2.1 I.out.2.2.2 rfl (by decide) _ 0 us rfl ((HOQ.out.1.alloc _).alloc _) ⟨wq.heap.size + 1, 0, none⟩ 1 1 [.slice (some ⟨wq.heap.size + 0, 0, none⟩) 2 2] rfl rfl (news_at _ _ _ _ (by simp)) (by simp [Value.oneCell']) (by unfold maxLen; omega) (by omega) (by simp; omega) ?_; intro v' wn hown' hgrow _)
          go_roundw
          case rel =>
            refine ⟨k + 1, 0 + 1, by omega, by go_num, hide (by rw [E.out, List.length_append, HM.out]; rfl), ?_, ?_⟩
            · rw [E.out, rP_snoc]
              exact hide (ss_snoc (r := cP (p, p + calm)) HNE.out HOQ.out HRQ.out (hszq) (by simp [cP, maxLen]) hgrow hown')
            · exact (((hbw.alloc hszq _).alloc (by simp; omega) _)).grown hgrow (by simp; omega) (fun g hg => (HOQ.out.lt g hg).1)
          case measure => simp [intOf]; omega
    · obtain rfl : k = n := by omega
      go_wp2
      go_ret
      exact ⟨_, rfl, by unfold alm; rw [H1.out, HM.out]; exact HO.out, hbr⟩

end Go.Proofs.Ytjepeibajnlgeaa
