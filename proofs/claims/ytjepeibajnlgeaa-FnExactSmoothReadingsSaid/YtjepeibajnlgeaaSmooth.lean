/-
  SmoothReadings: the reference's and the program's. No condition but those that each theorem names.
-/
import Derived.Test.YtjepeibajnlgeaaReadOk
import Derived.Test.YtjepeibajnlgeaaFamReading
import Derived.Test.YtjepeibajnlgeaaBox
import Derived.Deep.AppendLies
import Derived.IntWalk
import Derived.Deep.DeepCutAuto
namespace Go.Proofs.Ytjepeibajnlgeaa
open Go.RowKit
set_option linter.unusedVariables false

abbrev Rdg := List (Int × Int)
def spd (l : Rdg) (x : Int) : Int := if 0 ≤ x ∧ x < l.length then (l.getD x.toNat (0, 0)).2 else 0
def one (l : Rdg) (x : Int) : Int := if 0 ≤ x ∧ x < l.length then 1 else 0
def smS (l : Rdg) (i : Nat) : Nat → Int
  | 0 => 0
  | j + 1 => smS l i j + spd l ((i : Int) - 1 + j)
def smN (l : Rdg) (i : Nat) : Nat → Int
  | 0 => 0
  | j + 1 => smN l i j + one l ((i : Int) - 1 + j)
def Spd (l : Rdg) : Prop := ∀ k (hk : k < l.length), 0 ≤ l[k].2 ∧ l[k].2 ≤ 600
theorem spd_bd {l : Rdg} (h : Spd l) (x : Int) : 0 ≤ spd l x ∧ spd l x ≤ 600 := by
  unfold spd
  split
  · rename_i hx
    have := h x.toNat (by omega)
    simpa [List.getD, show x.toNat < l.length by omega] using this
  · omega
theorem one_bd (l : Rdg) (x : Int) : 0 ≤ one l x ∧ one l x ≤ 1 := by unfold one; split <;> omega
theorem smS_bd {l : Rdg} (h : Spd l) (i j : Nat) : 0 ≤ smS l i j ∧ smS l i j ≤ 600 * j := by
  induction j with
  | zero => simp [smS]
  | succ j ih => have := spd_bd h ((i : Int) - 1 + j); simp only [smS]; omega
theorem smN_bd (l : Rdg) (i j : Nat) : 0 ≤ smN l i j ∧ smN l i j ≤ j := by
  induction j with
  | zero => simp [smN]
  | succ j ih => have := one_bd l ((i : Int) - 1 + j); simp only [smN]; omega
theorem smN_pos {l : Rdg} {i : Nat} (h : i < l.length) : 1 ≤ smN l i 3 := by
  have h1 := one_bd l ((i : Int) - 1 + (0 : Nat))
  have h2 : one l ((i : Int) - 1 + (1 : Nat)) = 1 := by unfold one; rw [if_pos]; omega
  have h3 := one_bd l ((i : Int) - 1 + (2 : Nat))
  simp only [smN]
  omega
theorem spd_in {l : Rdg} {m : Nat} (h : m < l.length) {x : Int} (hx : x = m) : spd l x = l[m].2 ∧ one l x = 1 := by
  subst hx
  constructor
  · unfold spd; rw [if_pos ⟨by omega, by omega⟩]; simp [List.getD, h]
  · unfold one; rw [if_pos ⟨by omega, by omega⟩]
theorem spd_out {l : Rdg} {x : Int} (h : ¬ (0 ≤ x ∧ x < l.length)) : spd l x = 0 ∧ one l x = 0 := ⟨by unfold spd; rw [if_neg h], by unfold one; rw [if_neg h]⟩
def smP (l : Rdg) (i : Nat) : Int × Int := ((l.getD i (0, 0)).1, smS l i 3 / smN l i 3)
def smTo (l : Rdg) (k : Nat) : Rdg := (List.range k).map (smP l)
theorem smTo_len (l : Rdg) (k : Nat) : (smTo l k).length = k := by simp [smTo]
theorem smTo_succ (l : Rdg) (k : Nat) : smTo l (k + 1) = smTo l k ++ [smP l k] := by simp [smTo, List.range_succ]
theorem rReading_snoc (l : Rdg) (p : Int × Int) : rReading (l ++ [p]) = rReading l ++ [.int .i64 p.1, .int .i64 p.2] := by simp [rReading, rows, cReading]
theorem validR_spd {l : Rdg} (h : validR l = true) : Spd l := by
  intro k hk
  unfold validR at h
  rw [Bool.and_eq_true, List.all_eq_true] at h
  have := h.1 k (by simpa using hk)
  unfold okR at this
  simp only [Bool.and_eq_true] at this
  have h1 := inR_true this.1.2
  simpa [List.getD, hk] using h1
def smL (l : Rdg) : Rdg := if validR l = true then smTo l l.length else []
def smC (l : Rdg) : Int := if validR l = true then 0 else 1
theorem smL_len (l : Rdg) : (smL l).length ≤ l.length := by unfold smL; split <;> simp [smTo_len]
theorem news2_at (w : World) (x y : Value) (T : TypeId) (b : Nat) (hb : b = w.heap.size) : ∀ (j : Nat) (u : Value), [x, y][j]? = some u → (w.alloc (.cells #[x, y] T)).cell? ((⟨b, 0, none⟩ : Addr).add j) = some u := by
  subst hb
  intro j u hu
  rw [Go.WideShapes.add_plain, Nat.zero_add, new_cell]
  simpa using hu

theorem own_new {w : World} {base n size : Nat} {e : TypeId} {v : Value} {xs : List Value} (h : w.ownsRow base e size v n xs) : v.ownBlock ≠ some w.heap.size := fun e => by have := (h.lt _ e).2; omega
theorem own_not {w : World} {base b hi n size : Nat} {e : TypeId} {v : Value} {xs : List Value} (h : w.ownsRow base e size v n xs) (hb : b < hi) (hh : hi ≤ base) : v.ownBlock ≠ some b := fun e => by have := (h.lt b e).1; omega

set_option maxRecDepth 100000 in
set_option maxHeartbeats 4000000 in
theorem specSmooth_any (A : Option Addr) (n c lo hi : Nat) (l : Rdg) (hn : n ≤ 1048576) (hnc : n ≤ c) (hcm : c ≤ maxLen) (w : World) (hl : l.length = n) (h : Rd w lo hi 2 A n (rReading l)) (hhi : hi ≤ w.heap.size) :
    Calls Try.prog 8 #[.slice A n c] w fun e w' => ∃ v, e = .returned (.tuple #[v, .int .i64 (smC l)]) ∧ Own w' w.heap.size w'.heap.size 53 2 v (smL l).length (rReading (smL l)) ∧ Below w.heap.size w w' := by
  obtain ⟨i0, hi0, hz0, hz1, hz2⟩ := info_parts infoReading
  have I := hide (And.intro hi0 (And.intro hz0 (And.intro hz1 hz2)))
  have H1 := hide hl
  have H2 := hide h
  unfold maxLen at hcm
  clear hi0 hz0 hz1 hz2 hl h
  cases e1 : validR l
  · have HC : Hid (smC l = 1) := hide (by unfold smC; rw [e1]; rfl)
    have HL : Hid (smL l = []) := hide (by unfold smL; rw [e1]; rfl)
    go_enter Try.func8, Try.ntmps8
    go_wp2_with fail
    refine (l21Ok_any A n c lo hi l hn _ H1.out H2.out hhi).mono ?_
    rintro e w1 ⟨rfl, hb1⟩
    rw [e1]
    go_wp2_with fail
    go_ret2
    refine ⟨.slice none 0 0, by rw [HC.out]; rfl, ?_, hb1⟩
    rw [HL.out]
    exact ⟨World.ownsRow_nil _ _ _ _, fun g hg => by simp [Value.ownBlock] at hg⟩
  · have HC : Hid (smC l = 0) := hide (by unfold smC; rw [e1]; rfl)
    have HL : Hid (smL l = smTo l l.length) := hide (by unfold smL; rw [e1]; rfl)
    have HS := hide (validR_spd e1)
    go_enter Try.func8, Try.ntmps8
    go_wp2_with fail
    refine (l21Ok_any A n c lo hi l hn _ H1.out H2.out hhi).mono ?_
    rintro e w1 ⟨rfl, hb1⟩
    rw [e1]
    have hs1 := hb1.size
    clear e1
    go_wp2_with fail
    go_loopw [4, 5] (fun v i wr => ∃ k : Nat, k ≤ n ∧ i = .int .i64 k ∧ Hid (wr.ownsRow w.heap.size 53 2 v k (rReading (smTo l k))) ∧ Below w.heap.size w wr) (fun _ i _ => n - (intOf i).toNat)
    case atStart => exact ⟨0, by omega, rfl, hide (World.ownsRow_made _ _ 0 (by omega) (Nat.zero_le _) rfl), hb1.alloc hs1 _⟩
    case round =>
      obtain ⟨k, hk, rfl, HO, hbr⟩ := hrel
      by_cases hlt : k < n
      · have hlen : k < l.length := by rw [H1.out]; exact hlt
        obtain ⟨b, off, rfl, hb1', hb2', hc⟩ := H2.out.2 (by omega)
        have hbl : b < wr.heap.size := by have := hbr.size; omega
        have hsz := hbr.size
        have HCC := hide (fun m (hm : m < l.length) => (⟨(hbr.cell (p := ⟨b, off + m * 2, none⟩) (by show b < _; omega)).trans (hc _ _ (rReading_at l m hm).1), (hbr.cell (p := ⟨b, off + m * 2 + 1, none⟩) (by show b < _; omega)).trans (hc _ _ (rReading_at l m hm).2)⟩ : wr.cell? ⟨b, off + m * 2, none⟩ = some (.int .i64 l[m].1) ∧ wr.cell? ⟨b, off + m * 2 + 1, none⟩ = some (.int .i64 l[m].2)))
        clear hc
        have HNA := hide (own_not HO.out hb2' hhi)
        obtain ⟨wo, hwo⟩ : ∃ wo : World, wo = wr := ⟨_, rfl⟩
        subst hwo
        go_wp2_with fail
        go_loop [6, 7, 8] (fun s m x => ∃ (j : Nat) (y : Int), j ≤ 3 ∧ y ≤ (k : Int) - 1 + j ∧ (k : Int) - 1 + j ≤ y ∧ x = .int .i64 y ∧ s = .int .i64 (smS l k j) ∧ m = .int .i64 (smN l k j)) (fun _ _ x => ((k : Int) + 2 - intOf x).toNat)
        case atStart => exact ⟨0, (k : Int) - 1, by omega, by omega, by omega, rfl, rfl, rfl⟩
        case round =>
          obtain ⟨j, y, hj, hy1, hy2, rfl, rfl, rfl⟩ := hrel
          obtain ⟨s1, s2⟩ := smS_bd HS.out k j
          obtain ⟨m1, m2⟩ := smN_bd l k j
          by_cases hj3 : j < 3
          · have hyj : y = (k : Int) - 1 + j := by omega
            have E1 : Hid (smS l k (j + 1) = smS l k j + spd l y) := hide (by rw [hyj]; rfl)
            have E2 : Hid (smN l k (j + 1) = smN l k j + one l y) := hide (by rw [hyj]; rfl)
            clear hyj
            by_cases hin : 0 ≤ y ∧ y < n
            · obtain ⟨m, rfl⟩ : ∃ m : Nat, y = m := ⟨y.toNat, by omega⟩
              have hm : m < l.length := by rw [H1.out]; omega
              have hmn : m < n := by omega
              obtain ⟨F1, F2⟩ := spd_in hm (rfl : ((m : Nat) : Int) = m)
              have G1 := hide F1
              have G2 := hide F2
              clear F1 F2 hin
              obtain ⟨-, c1⟩ := HCC.out m hm
              obtain ⟨p1, p2⟩ := HS.out m hm
              have G3 := hide (rfl : l[m].2 = l[m].2)
              generalize hp : l[m].2 = p at *
              clear hp
              go_wp2_with fail
              go_round
              case rel => exact ⟨j + 1, (m : Int) + 1, by omega, by omega, by omega, rfl, vint (by rw [E1.out, G1.out]), vint (by rw [E2.out, G2.out])⟩
              case measure => simp [intOf]; omega
            · obtain ⟨F1, F2⟩ := spd_out (l := l) (x := y) (by rw [H1.out]; exact hin)
              have G1 := hide F1
              have G2 := hide F2
              clear F1 F2
              by_cases hneg : y < 0
              all_goals
                go_wp2_with fail
                go_round
                case rel => exact ⟨j + 1, y + 1, by omega, by omega, by omega, rfl, vint (by rw [E1.out, G1.out]; omega), vint (by rw [E2.out, G2.out]; omega)⟩
                case measure => simp [intOf]; omega
          · obtain rfl : j = 3 := by omega
            have hpos := smN_pos hlen
            obtain ⟨c0, -⟩ := HCC.out k hlen
            have EP : Hid (smP l k = (l[k].1, smS l k 3 / smN l k 3)) := hide (by unfold smP; simp [List.getD, hlen])
            generalize l[k].1 = a at *
            generalize smS l k 3 = S at *
            generalize smN l k 3 = N at *
            have q0 : 0 ≤ S / N := Int.ediv_nonneg s1 (by omega)
            have q1 : S / N ≤ S := Int.ediv_le_self _ s1
            have d1 : S.tdiv N = S / N := Int.tdiv_eq_ediv_of_nonneg s1
            have d2 : IntKind.i64.wrap (S / N) = S / N := IntWalk.i64_in _ (by omega)
            have d3 : (N == 0) = false := by simp; omega
            have d4 : ¬ N = 0 := by omega
            go_wp2_with fail
            go_region_held3 (fun W => W.cell? ⟨b, off + k * 2, none⟩ = some (.int .i64 a)) (first | go_keep | (rw [hgrow.cell_far _ (by simp; omega) (Ne.symm (HNA.out))]; assumption))
              ((refine step_append_lies _ (by rfl) _ _ _ (by rfl) w.heap.size 53 i0 _ 2 16 Try.underlying24 I.out.1 I.out.2.1 I.out.2.2.1 I.out.2.2.2 rfl (by omega) _ k _ (by rfl) ((HO.out.alloc _).drew) ⟨wo.heap.size, 0, none⟩ 1 1 [.int .i64 a, .int .i64 (S / N)] (by rfl) (by rfl) (World.news_of_block (cs := #[.int .i64 a, .int .i64 (S / N)]) (t := 53) (fr := (0, 0)) (heap_alloc_new wo _)) (by simp [Value.oneCell']) (by omega) (by unfold maxLen; omega) (by omega) (by simp; omega) (wo.heap.size + 1) (by simp) ?_; intro gg cap wn hown' hgrow hat hlt'))
            go_wp2_with fail
            go_roundw
            case rel =>
              refine ⟨k + 1, by omega, by go_num, hide ?_, (hbr.alloc hsz _).drew.grown hgrow (by simp; omega) (fun g hg => (HO.out.lt g hg).1)⟩
              rw [smTo_succ, rReading_snoc, EP.out]
              exact hown'
            case measure => simp [intOf]; omega
      · obtain rfl : k = n := by omega
        go_wp2_with fail
        go_ret2
        refine ⟨_, by rw [HC.out]; rfl, ?_, hbr⟩
        rw [HL.out, smTo_len, H1.out]
        exact Own.of_owns HO.out

def rngS (l : Rdg) (lo : Nat) : Nat → Int
  | 0 => 0
  | j + 1 => rngS l lo j + (l.getD (lo + j) (0, 0)).2
theorem getD_in {l : Rdg} {m : Nat} (h : m < l.length) : l.getD m (0, 0) = l[m] := by simp [List.getD, h]
theorem rng_eq {l : Rdg} {k : Nat} (hk : k < l.length) : rngS l (k - 1) (min (k + 2) l.length - (k - 1)) = smS l k 3 ∧ ((min (k + 2) l.length - (k - 1) : Nat) : Int) = smN l k 3 := by
  obtain ⟨a1, a2⟩ := spd_in (l := l) hk (x := (k : Int) - 1 + (1 : Nat)) (by omega)
  rcases Nat.eq_zero_or_pos k with h0 | h0
  · subst h0
    obtain ⟨b1, b2⟩ := spd_out (l := l) (x := ((0 : Nat) : Int) - 1 + (0 : Nat)) (by omega)
    rcases Nat.lt_or_ge 1 l.length with h1 | h1
    · obtain ⟨c1, c2⟩ := spd_in (l := l) h1 (x := ((0 : Nat) : Int) - 1 + (2 : Nat)) (by omega)
      rw [show min (0 + 2) l.length - (0 - 1) = 2 by omega]
      simp only [rngS, smS, smN, a1, a2, b1, b2, c1, c2, getD_in hk, getD_in h1, Nat.zero_sub, Nat.zero_add]
      omega
    · obtain ⟨c1, c2⟩ := spd_out (l := l) (x := ((0 : Nat) : Int) - 1 + (2 : Nat)) (by omega)
      rw [show min (0 + 2) l.length - (0 - 1) = 1 by omega]
      simp only [rngS, smS, smN, a1, a2, b1, b2, c1, c2, getD_in hk, Nat.zero_sub, Nat.zero_add]
      omega
  · obtain ⟨m, rfl⟩ : ∃ m, k = m + 1 := ⟨k - 1, by omega⟩
    have hm : m < l.length := by omega
    obtain ⟨b1, b2⟩ := spd_in (l := l) hm (x := ((m + 1 : Nat) : Int) - 1 + (0 : Nat)) (by omega)
    rcases Nat.lt_or_ge (m + 1 + 1) l.length with h1 | h1
    · obtain ⟨c1, c2⟩ := spd_in (l := l) h1 (x := ((m + 1 : Nat) : Int) - 1 + (2 : Nat)) (by omega)
      have hk' : l.getD (m + 1) (0, 0) = l[m + 1] := getD_in hk
      have h1' : l.getD (m + 2) (0, 0) = l[m + 1 + 1] := getD_in h1
      have hmm : min (m + 1 + 2) l.length = m + 3 := by omega
      rw [show min (m + 1 + 2) l.length - (m + 1 - 1) = 3 by rw [hmm]; omega]
      simp only [rngS, smS, smN, a1, a2, b1, b2, c1, c2, hk', h1', getD_in hm, Nat.add_sub_cancel, Nat.add_zero]
      first | omega | simp
    · obtain ⟨c1, c2⟩ := spd_out (l := l) (x := ((m + 1 : Nat) : Int) - 1 + (2 : Nat)) (by omega)
      have hk' : l.getD (m + 1) (0, 0) = l[m + 1] := getD_in hk
      rw [show min (m + 1 + 2) l.length - (m + 1 - 1) = 2 by omega]
      simp only [rngS, smS, smN, a1, a2, b1, b2, c1, c2, hk', getD_in hm, Nat.add_sub_cancel, Nat.add_zero]
      omega
theorem rng_bd {l : Rdg} (h : Spd l) (lo j : Nat) : 0 ≤ rngS l lo j ∧ rngS l lo j ≤ 600 * j := by
  induction j with
  | zero => simp [rngS]
  | succ j ih =>
    have : 0 ≤ (l.getD (lo + j) (0, 0)).2 ∧ (l.getD (lo + j) (0, 0)).2 ≤ 600 := by
      rcases Nat.lt_or_ge (lo + j) l.length with h1 | h1
      · rw [getD_in h1]; exact h _ h1
      · simp [List.getD, h1]
    simp only [rngS]; omega

theorem vslice {b x y n n' c c' : Nat} (h1 : x = y) (h2 : n = n') (h3 : c = c') : Value.slice (some ⟨b, x, none⟩) n c = .slice (some ⟨b, y, none⟩) n' c' := by rw [h1, h2, h3]

set_option maxRecDepth 100000 in
set_option maxHeartbeats 4000000 in
theorem implSmooth_any (A : Option Addr) (n c lo hi : Nat) (l : Rdg) (hn : n ≤ 1048576) (hnc : n ≤ c) (hcm : c ≤ maxLen) (w : World) (hl : l.length = n) (h : Rd w lo hi 2 A n (rReading l)) (hhi : hi ≤ w.heap.size) :
    Calls Try.prog 10 #[.slice A n c] w fun e w' => ∃ v, e = .returned (.tuple #[v, .int .i64 (smC l)]) ∧ Own w' w.heap.size w'.heap.size 53 2 v (smL l).length (rReading (smL l)) ∧ Below w.heap.size w w' := by
  obtain ⟨i0, hi0, hz0, hz1, hz2⟩ := info_parts infoReading
  have I := hide (And.intro hi0 (And.intro hz0 (And.intro hz1 hz2)))
  have H1 := hide hl
  have H2 := hide h
  unfold maxLen at hcm
  clear hi0 hz0 hz1 hz2 hl h
  cases e1 : validR l
  · have HC : Hid (smC l = 1) := hide (by unfold smC; rw [e1]; rfl)
    have HL : Hid (smL l = []) := hide (by unfold smL; rw [e1]; rfl)
    go_enter Try.func10, Try.ntmps10
    go_wp2_with fail
    refine (ValidReadings_any A n c lo hi l hn _ H1.out H2.out hhi).mono ?_
    rintro e w1 ⟨rfl, hb1⟩
    rw [e1]
    go_wp2_with fail
    go_ret2
    refine ⟨.slice none 0 0, by rw [HC.out]; rfl, ?_, hb1⟩
    rw [HL.out]
    exact ⟨World.ownsRow_nil _ _ _ _, fun g hg => by simp [Value.ownBlock] at hg⟩
  · have HC : Hid (smC l = 0) := hide (by unfold smC; rw [e1]; rfl)
    have HL : Hid (smL l = smTo l l.length) := hide (by unfold smL; rw [e1]; rfl)
    have HS := hide (validR_spd e1)
    go_enter Try.func10, Try.ntmps10
    go_wp2_with fail
    refine (ValidReadings_any A n c lo hi l hn _ H1.out H2.out hhi).mono ?_
    rintro e w1 ⟨rfl, hb1⟩
    rw [e1]
    have hs1 := hb1.size
    clear e1
    go_wp2_with fail
    go_loopw [4, 16] (fun v i wr => ∃ k : Nat, k ≤ n ∧ i = .int .i64 k ∧ Hid (wr.ownsRow w.heap.size 53 2 v k (rReading (smTo l k))) ∧ Below w.heap.size w wr) (fun _ i _ => n - (intOf i).toNat)
    case atStart => exact ⟨0, by omega, rfl, hide (World.ownsRow_nil _ _ _ _), hb1⟩
    case round =>
      obtain ⟨k, hk, rfl, HO, hbr⟩ := hrel
      by_cases hlt : k < n
      · have hlen : k < l.length := by rw [H1.out]; exact hlt
        obtain ⟨b, off, rfl, hb1', hb2', hc⟩ := H2.out.2 (by omega)
        have hbl : b < wr.heap.size := by have := hbr.size; omega
        have hsz := hbr.size
        have HCC := hide (fun m (hm : m < l.length) => (⟨(hbr.cell (p := ⟨b, off + m * 2, none⟩) (by show b < _; omega)).trans (hc _ _ (rReading_at l m hm).1), (hbr.cell (p := ⟨b, off + m * 2 + 1, none⟩) (by show b < _; omega)).trans (hc _ _ (rReading_at l m hm).2)⟩ : wr.cell? ⟨b, off + m * 2, none⟩ = some (.int .i64 l[m].1) ∧ wr.cell? ⟨b, off + m * 2 + 1, none⟩ = some (.int .i64 l[m].2)))
        clear hc
        have HNA := hide (own_not HO.out hb2' hhi)
        obtain ⟨wo, hwo⟩ : ∃ wo : World, wo = wr := ⟨_, rfl⟩
        subst hwo
        obtain ⟨lo', hlo⟩ : ∃ x, k - 1 = x := ⟨_, rfl⟩
        obtain ⟨len, hlen'⟩ : ∃ x, min (k + 2) n - (k - 1) = x := ⟨_, rfl⟩
        have hlen3 : len ≤ 3 := by omega
        have hll : lo' + len ≤ n := by omega
        have hm1 : max ((k : Int) - 1) 0 = lo' := by omega
        have hm2 : min ((k : Int) + 2) (n : Int) = ((lo' + len : Nat) : Int) := by omega
        have HRE := hide (rng_eq hlen)
        obtain ⟨c0, c1⟩ := HCC.out k hlen
        generalize hp : l[k].1 = p at *
        generalize hq : l[k].2 = q at *
        have HPP := hide hp
        clear hp hq
        go_upto_region 8 with fail
        go_cut [30, 31, 32] (fun s30 s31 s32 W => s30 = .slice (some ⟨b, off + lo' * 2, none⟩) len (c - lo') ∧ s31 = .int .i64 (len : Nat) ∧ s32 = .int .i64 0 ∧ W = wo.alloc (.cells #[.int .i64 p, .int .i64 q] 53))
        case first =>
          go_wp2_with fail
          all_goals go_meet
          all_goals exact ⟨vslice (by omega) (by omega) (by omega), vint (by omega), rfl, rfl⟩
        case rest =>
          obtain ⟨rfl, rfl, rfl, rfl⟩ := hcut
          have HBX := hide (box_at wo #[.int .i64 p, .int .i64 q] 53 wo.heap.size rfl)
          obtain ⟨wx, hwx⟩ : ∃ W : World, W = wo.alloc (.cells #[.int .i64 p, .int .i64 q] 53) := ⟨_, rfl⟩
          rw [← hwx]
          rw [← hwx] at HBX
          have hbx : Below wo.heap.size wo wx := by rw [hwx]; exact (Below.refl _ _).alloc (Nat.le_refl _) _
          have hsx : wo.heap.size + 1 ≤ wx.heap.size := by rw [hwx]; simp
          clear hwx
          have HREL := hide hlo
          have HREN := hide hlen'
          clear hm1 hm2 hlo hlen'
          go_wp2_with fail
          go_loopw [7, 8, 32] (fun s m x wr => ∃ j : Nat, j ≤ len ∧ x = .int .i64 j ∧ s = .int .i64 (rngS l lo' j) ∧ m = .int .i64 j ∧ Below wx.heap.size wx wr) (fun _ _ x _ => len - (intOf x).toNat)
          case atStart => exact ⟨0, by omega, rfl, rfl, rfl, Below.refl _ _⟩
          case round =>
            obtain ⟨j, hj, rfl, rfl, rfl, hbi⟩ := hrel
            obtain ⟨s1, s2⟩ := rng_bd HS.out lo' j
            have hsi := hbi.size
            by_cases hjl : j < len
            · have hm : lo' + j < l.length := by rw [H1.out]; omega
              have E1 : Hid (rngS l lo' (j + 1) = rngS l lo' j + l[lo' + j].2) := hide (by rw [← getD_in hm]; rfl)
              obtain ⟨p1, p2⟩ := HS.out (lo' + j) hm
              have hbw := hbx.trans (hbi.mono (by omega))
              have d0 : wr.cell? ⟨b, off + lo' * 2 + j * 2, none⟩ = some (.int .i64 l[lo' + j].1) := by
                have := (hbw.cell (p := ⟨b, off + (lo' + j) * 2, none⟩) hbl).trans (HCC.out (lo' + j) hm).1
                rwa [show off + (lo' + j) * 2 = off + lo' * 2 + j * 2 by omega] at this
              have d1 : wr.cell? ⟨b, off + lo' * 2 + j * 2 + 1, none⟩ = some (.int .i64 l[lo' + j].2) := by
                have := (hbw.cell (p := ⟨b, off + (lo' + j) * 2 + 1, none⟩) hbl).trans (HCC.out (lo' + j) hm).2
                rwa [show off + (lo' + j) * 2 + 1 = off + lo' * 2 + j * 2 + 1 by omega] at this
              generalize l[lo' + j].1 = x1 at *
              generalize l[lo' + j].2 = x2 at *
              go_wp2_with fail
              go_roundw
              case rel => exact ⟨j + 1, by omega, by go_num, vint (by rw [E1.out]), by go_num, hbi.alloc hsi _⟩
              case measure => simp [intOf]; omega
            · obtain rfl : j = len := by omega
              have EQ1 : rngS l lo' j = smS l k 3 := by have h := HRE.out.1; rw [H1.out, HREN.out, HREL.out] at h; exact h
              have EQ2 : ((j : Nat) : Int) = smN l k 3 := by have h := HRE.out.2; rw [H1.out, HREN.out] at h; exact h
              have hpos : 1 ≤ j := by have := smN_pos hlen; omega
              have EP : Hid (smP l k = (p, rngS l lo' j / (j : Int))) := hide (by unfold smP; rw [getD_in hlen, HPP.out, EQ1, EQ2])
              clear EQ1 EQ2
              have hbw := hbx.trans (hbi.mono (by omega))
              have HOW := hide (owns_below HO.out hbw)
              have HNX := hide (own_new HO.out)
              have e0 := HBX.out.below hbi (by omega) 0 _ rfl
              have hbt := hbr.trans (hbw.mono (by omega))
              have hst : w.heap.size ≤ wr.heap.size := by omega
              generalize rngS l lo' j = S at *
              have m0 : (1 : Int) ≤ ((j : Nat) : Int) := by omega
              have m3 : ((j : Nat) : Int) ≤ 3 := by omega
              generalize ((j : Nat) : Int) = N at *
              have q0 : 0 ≤ S / N := Int.ediv_nonneg s1 (by omega)
              have q1 : S / N ≤ S := Int.ediv_le_self _ s1
              have hS : S ≤ 1800 := by omega
              have d1 : S.tdiv N = S / N := Int.tdiv_eq_ediv_of_nonneg s1
              have d2 : IntKind.i64.wrap (S / N) = S / N := IntWalk.i64_in _ (by omega)
              have d3 : (N == 0) = false := by simp; omega
              have d4 : ¬ N = 0 := by omega
              go_wp2_with fail
              go_region_held3 (fun W => W.cell? ⟨wo.heap.size, 0, none⟩ = some (.int .i64 p)) (first | go_keep | (rw [hgrow.cell_far _ (by simp; omega) (Ne.symm (HNX.out))]; assumption))
                ((refine step_append_lies _ (by rfl) _ _ _ (by rfl) w.heap.size 53 i0 _ 2 16 Try.underlying24 I.out.1 I.out.2.1 I.out.2.2.1 I.out.2.2.2 rfl (by omega) _ k _ (by rfl) ((HOW.out.alloc _).drew) ⟨wr.heap.size, 0, none⟩ 1 1 [.int .i64 p, .int .i64 (S / N)] (by rfl) (by rfl) (World.news_of_block (cs := #[.int .i64 p, .int .i64 (S / N)]) (t := 53) (fr := (0, 0)) (heap_alloc_new wr _)) (by simp [Value.oneCell']) (by omega) (by unfold maxLen; omega) (by omega) (by simp; omega) (wr.heap.size + 1) (by simp) ?_; intro gg cap wn hown' hgrow hat hlt'))
              go_wp2_with fail
              go_roundw
              case rel =>
                refine ⟨k + 1, by omega, by go_num, hide ?_, (hbt.alloc hst _).drew.grown hgrow (by simp; omega) (fun g hg => (HOW.out.lt g hg).1)⟩
                rw [smTo_succ, rReading_snoc, EP.out]
                exact hown'
              case measure => simp [intOf]; omega
      · obtain rfl : k = n := by omega
        go_wp2_with fail
        go_ret2
        refine ⟨_, by rw [HC.out]; rfl, ?_, hbr⟩
        rw [HL.out, smTo_len, H1.out]
        exact Own.of_owns HO.out

end Go.Proofs.Ytjepeibajnlgeaa
