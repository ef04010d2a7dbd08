/-
  THE REFERENCE's READERS: a text's parts, a number, a pair. No condition but those that each theorem names.
-/
import Derived.Test.YtclfhegjfjcjeaaDoorRd
import Derived.Test.YtclfhegjfjcjeaaDoorSpl
import Derived.Laws.AppendOwn
import Derived.BigQuiet
namespace Go.Proofs.YtclfhegjfjcjeaaDoor
open Go.RowKit
set_option linter.unusedVariables false
set_option linter.unusedSimpArgs false

theorem bstr_get {l : List UInt8} {i : Nat} (h : i < l.length) : (bstr l).get! i = l[i] := by
  show (l.toArray)[i]! = l[i]
  simp [h]
theorem bstr_ext (l : List UInt8) (a b : Nat) : (bstr l).extract a b = bstr ((l.drop a).take (b - a)) := by
  have := Lib.extract_data (bstr l) a b
  rw [show (bstr l).data.toList = l by simp [bstr]] at this
  rw [← this]
  rfl
theorem bstr_all (s : ByteArray) : bstr s.data.toList = s := by
  obtain ⟨⟨l⟩⟩ := s
  rfl
theorem bstr_inj {l m : List UInt8} (h : bstr l = bstr m) : l = m := by
  have := congrArg (fun s : ByteArray => s.data.toList) h
  simpa [bstr] using this
theorem below_al9 (w : World) (o : Obj) : Below w.heap.size w (w.alloc o) := (Below.refl _ _).alloc (Nat.le_refl _) o
theorem split_hit {c : UInt8} {l t p : List UInt8} (h : l = c :: t) : hdP p (splitL c l) = p :: splitL c t := by
  subst h
  rw [splitL, if_pos rfl, hdP, List.append_nil]
theorem split_miss {c x : UInt8} {l t p : List UInt8} (h : l = x :: t) (hx : x ≠ c) : hdP p (splitL c l) = hdP (p ++ [x]) (splitL c t) := by
  subst h
  rw [splitL, if_neg hx, hdP_hdP _ _ (splitL_ne _ _)]
theorem piece_snoc {l : List UInt8} {a k : Nat} (h : a ≤ k) (hk : k < l.length) : Lib.pieceU l a (k + 1) = Lib.pieceU l a k ++ [l[k]] := by
  rw [← Lib.pieceU_grow l a k 1 h, List.drop_eq_getElem_cons hk]
  rfl
theorem piece_nil (l : List UInt8) (a : Nat) : Lib.pieceU l a a = [] := by unfold Lib.pieceU; simp
theorem drop_at {l : List UInt8} {k : Nat} {x : UInt8} (hk : k < l.length) (h : l[k] = x) : l.drop k = x :: l.drop (k + 1) := by rw [List.drop_eq_getElem_cons hk, h]
theorem bstr_ix {l : List UInt8} {i : Nat} (h : i < (bstr l).size) (h2 : i < l.length) : (bstr l)[i]'h = l[i] := by
  show (l.toArray)[i] = l[i]
  simp

set_option maxRecDepth 100000 in
set_option maxHeartbeats 2000000 in
theorem l01Split_any (l : List UInt8) (c : UInt8) (n : Nat) (hl : l.length = n) (hn : n ≤ 1048576) (w : World) :
    Calls Tryd.prog 9 #[.string (bstr l), .int .u8 (c.toNat : Int)] w fun e w' => ∃ v, e = .returned v ∧ Own w' w.heap.size w'.heap.size 9 1 v (splitL c l).length (strs (splitL c l)) ∧ Below w.heap.size w w' := by
  obtain ⟨i0, hi0, hz0, hz1, hz2⟩ := info_parts infoStr
  have I := hide (And.intro hi0 (And.intro hz0 (And.intro hz1 hz2)))
  clear hi0 hz0 hz1 hz2
  have hsz : (bstr l).size = n := by rw [bstr_size, hl]
  have HL := hide hl
  clear hl
  go_enter Tryd.func9, Tryd.ntmps9
  go_wp2_with fail
  go_loopw [5, 6, 7] (fun o f i wr => ∃ (a k : Nat) (O : List (List UInt8)), a ≤ k ∧ k ≤ n ∧ f = .int .i64 a ∧ i = .int .i64 k ∧ Hid (O.length ≤ k) ∧ Hid (splitL c l = O ++ hdP (Lib.pieceU l a k) (splitL c (l.drop k))) ∧ Hid (wr.ownsRow w.heap.size 9 1 o O.length (strs O)) ∧ Hid (Below w.heap.size w wr)) (fun _ _ i _ => n - (intOf i).toNat)
  case atStart => exact ⟨0, 0, [], by omega, by omega, by first | rfl | go_num, by first | rfl | go_num, hide (by simp), hide (by rw [piece_nil, hdP_nil (splitL_ne _ _)]; rfl), hide (World.ownsRow_made (base := w.heap.size) (size := 1) w #[] 0 (Nat.le_refl _) (Nat.zero_le _) rfl), hide (below_al9 _ _)⟩
  case round =>
    obtain ⟨a, k, O, hak, hkn, rfl, rfl, HK, HP, HO, HB⟩ := hrel
    have hszr := HB.out.size
    by_cases hk : k < n
    · have hk1 : k < l.length := by have := HL.out; omega
      obtain ⟨x, hx⟩ : ∃ x, l[k] = x := ⟨_, rfl⟩
      have HX := hide hx
      have hk2 : k < (bstr l).size := by omega
      have z1 : (k : Int) < (n : Int) := by omega
      have hkc := HK.out
      by_cases hc : (bstr l)[k] = c
      · have HD := hide (drop_at hk1 ((bstr_ix hk2 hk1).symm.trans hc))
        clear hx
        have z2 : ((bstr l)[k]).toNat = c.toNat := by rw [hc]
        have z3 : (((bstr l)[k]).toNat : Int) = (c.toNat : Int) := by rw [hc]
        go_wp2_with (at_builtin; refine wpList_append_own _ rfl (.tmp 20) (.tmp 25) 28 rfl w.heap.size 9 i0 (.string ⟨#[]⟩) 1 16 Tryd.underlying28 I.out.1 I.out.2.1 I.out.2.2.1 I.out.2.2.2 rfl (by decide) u5 O.length (strs O) rfl (HO.out.alloc _) ⟨wr.heap.size, 0, none⟩ 1 1 [.string ((bstr l).extract a k)] rfl rfl (one_at8 _ _ _) (by simp [Value.oneCell']) (by unfold maxLen; omega) (by omega) (by simp; omega) ?_; intro v' wn hown' hgrow _)
        have hb' : Below w.heap.size w wn := (HB.out.alloc (by omega) _).grown hgrow (by simp; omega) (fun g hg => (HO.out.lt g hg).1)
        have HO9 : Hid (wn.ownsRow w.heap.size 9 1 v' (O ++ [Lib.pieceU l a k]).length (strs (O ++ [Lib.pieceU l a k]))) := hide (by rw [strs_sn, List.length_append, List.length_singleton]; have q := hown'; rw [bstr_ext] at q; exact q)
        have HB9 := hide hb'
        clear hown' hgrow hb'
        go_roundw
        case rel => exact ⟨k + 1, k + 1, _, by omega, by omega, by first | rfl | go_num, by first | rfl | go_num, hide (by simp; omega), hide (by rw [piece_nil, hdP_nil (splitL_ne _ _), HP.out, split_hit HD.out]; simp), HO9, HB9⟩
        case measure => first | (simp [intOf]; done) | (simp [intOf]; omega)
      · have HD := hide (drop_at hk1 rfl)
        have HNE : Hid (l[k] ≠ c) := hide (fun e => hc ((bstr_ix hk2 hk1).trans e))
        have HPS := hide (piece_snoc hak hk1)
        have z2 : ¬ ((bstr l)[k]).toNat = c.toNat := fun e => hc (UInt8.toNat_inj.1 e)
        have z3 : ¬ (((bstr l)[k]).toNat : Int) = (c.toNat : Int) := by omega
        go_wp2_with fail
        go_roundw
        case rel => exact ⟨a, k + 1, O, by omega, by omega, by first | rfl | go_num, by first | rfl | go_num, hide (by omega), hide (by rw [HP.out, split_miss HD.out HNE.out, HPS.out]), HO, HB⟩
        case measure => first | (simp [intOf]; done) | (simp [intOf]; omega)
    · have hkc := HK.out
      have z1 : ¬ (k : Int) < (n : Int) := by omega
      have z4 : (a : Int) ≤ (n : Int) := by omega
      have HQ : Hid (splitL c l = O ++ [Lib.pieceU l a n]) := hide (by obtain rfl : k = n := (by omega); rw [HP.out, List.drop_eq_nil_of_le (by have := HL.out; omega)]; simp [splitL, hdP])
      clear HP
      go_wp2_with (at_builtin; refine wpList_append_own _ rfl (.tmp 29) (.tmp 33) 28 rfl w.heap.size 9 i0 (.string ⟨#[]⟩) 1 16 Tryd.underlying28 I.out.1 I.out.2.1 I.out.2.2.1 I.out.2.2.2 rfl (by decide) u5 O.length (strs O) rfl (HO.out.alloc _) ⟨wr.heap.size, 0, none⟩ 1 1 [.string ((bstr l).extract a n)] rfl rfl (one_at8 _ _ _) (by simp [Value.oneCell']) (by unfold maxLen; omega) (by omega) (by simp; omega) ?_; intro v' wn hown' hgrow _)
      have hb' : Below w.heap.size w wn := (HB.out.alloc (by omega) _).grown hgrow (by simp; omega) (fun g hg => (HO.out.lt g hg).1)
      have HO9 : Hid (wn.ownsRow w.heap.size 9 1 v' (O ++ [Lib.pieceU l a n]).length (strs (O ++ [Lib.pieceU l a n]))) := hide (by rw [strs_sn, List.length_append, List.length_singleton]; have q := hown'; rw [bstr_ext] at q; exact q)
      have HB9 := hide hb'
      clear hown' hgrow hb'
      go_ret
      exact ⟨v', rfl, by rw [HQ.out]; exact Own.of_owns HO9.out, HB9.out⟩

theorem bstr_list2 (l : List UInt8) : (bstr l).toList = l := by simp [bstr]
theorem list_ne {S T : ByteArray} (h : ¬ S = T) : (S.toList == T.toList) = false := by
  refine beq_eq_false_iff_ne.2 fun e => h ?_
  rw [← bstr_all S, ← bstr_all T] at e ⊢
  rw [bstr_list2, bstr_list2] at e
  rw [e]
theorem bstr_empty (l : List UInt8) : (bstr l).toList.isEmpty = l.isEmpty := by rw [bstr_list2]
/-- What a reader of numbers answers. -/
def NumR (w w' : World) (e : Ending) (t : List UInt8) : Prop := ∃ (m : Int) (ok : Bool), e = .returned (.tuple #[.int .i64 m, .bool ok]) ∧ (ok = true → numOk t m) ∧ (∀ m', numOk t m' → ok = true) ∧ Below w.heap.size w w'
theorem numR_no {w w' : World} {t : List UInt8} {x : Int} (h : ∀ m', ¬ numOk t m') (hb : Below w.heap.size w w') : NumR w w' (.returned (.tuple #[.int .i64 x, .bool false])) t := ⟨x, false, rfl, (fun h => by cases h), fun m' h' => absurd h' (h m'), hb⟩
theorem numR_yes {w w' : World} {t : List UInt8} {x : Int} (h : numOk t x) (hb : Below w.heap.size w w') : NumR w w' (.returned (.tuple #[.int .i64 x, .bool true])) t := ⟨x, true, rfl, fun _ => h, fun _ _ => rfl, hb⟩
/-- Is a byte a digit? -/
def dgB (x : Int) : Bool := decide (48 ≤ x) && decide (x ≤ 57)
set_option maxHeartbeats 1000000 in
theorem l01Digit_any (x : Int) (w : World) : Calls Tryd.prog 28 #[.int .u8 x] w fun e w' => e = .returned (.bool (dgB x)) ∧ w' = w := by
  by_cases h1 : 48 ≤ x
  all_goals by_cases h2 : x ≤ 57
  all_goals
    go_enter Tryd.func28, Tryd.ntmps28
    go_wp2_with fail
    go_ret
    exact ⟨by simp [dgB, h1, h2], rfl⟩
/-- The digits of a text: itself, or what stands behind its sign. -/
def Bdy (t u : List UInt8) : Prop := t = u ∧ (∀ r, t ≠ 45 :: r) ∨ t = 45 :: u
theorem num_body {t u : List UInt8} {m : Int} (h : numOk t m) (e : Bdy t u) : Lib.decDigits m.natAbs = u ∧ (t = 45 :: u → m < 0) ∧ ((∀ r, t ≠ 45 :: r) → 0 ≤ m) := by
  have h3 := h.2.2
  unfold Lib.itoa at h3
  split at h3
  · rcases e with ⟨rfl, e⟩ | e
    · exact absurd h3.symm (e _)
    · rw [e] at h3
      injection h3 with _ h3
      exact ⟨h3, fun _ => by assumption, fun h => absurd e (h u)⟩
  · rename_i hm
    have hne : ∀ r, t ≠ 45 :: r := fun r hr => by
      have hd := dec_digs m.toNat
      rw [h3] at hd
      have := hd 45 (by rw [hr]; simp)
      exact absurd this.1 (by decide)
    rcases e with ⟨rfl, e⟩ | e
    · exact ⟨by rw [show m.natAbs = m.toNat by omega]; exact h3, fun h => absurd h (hne _), fun _ => by omega⟩
    · exact absurd e (hne _)
theorem num_len {t u : List UInt8} {m : Int} (h : numOk t m) (e : Bdy t u) : 1 ≤ u.length ∧ u.length ≤ 18 ∧ digs u ∧ valF 0 u = m.natAbs := by
  obtain ⟨h1, _, _⟩ := num_body h e
  have hb := h.1
  have hb2 := h.2.1
  subst h1
  refine ⟨?_, nDigits_18 _ (by omega), dec_digs _, dec_val _⟩
  have := dec_ne m.natAbs
  generalize Lib.decDigits m.natAbs = l at this
  cases l with
  | nil => exact absurd rfl this
  | cons => simp

set_option maxRecDepth 100000 in
set_option maxHeartbeats 2000000 in
theorem l01Number_any (t : List UInt8) (n : Nat) (hl : t.length = n) (hn : n ≤ 1048576) (w : World) :
    Calls Tryd.prog 18 #[.string (bstr t)] w fun e w' => NumR w w' e t := by
  have HL := hide hl
  have hsz : (bstr t).size = n := by rw [bstr_size, hl]
  clear hl
  by_cases h0 : t = []
  · have hE : (bstr t).toList.isEmpty = true := by rw [bstr_empty, h0]; rfl
    have HNO : Hid (∀ m', ¬ numOk t m') := hide (fun m' h => itoa_ne m' (h.2.2.trans h0))
    have hn0 : n = 0 := by rw [← HL.out, h0]; rfl
    subst hn0
    clear h0 HL
    go_enter Tryd.func18, Tryd.ntmps18
    go_wp2_with fail
    go_ret2
    exact numR_no HNO.out (Below.refl _ _)
  · have hE : (bstr t).toList.isEmpty = false := by rw [bstr_empty]; cases t with | nil => exact absurd rfl h0 | cons => rfl
    have hpos : 0 < n := by have := HL.out; cases t with | nil => exact absurd rfl h0 | cons => simp at this; omega
    have hx0 : 0 < (bstr t).size := by omega
    have hx1 : 0 < t.length := by have := HL.out; omega
    have hxx := bstr_ix hx0 hx1
    by_cases hc : (bstr t)[0]'hx0 = 45
    · obtain ⟨u, hu⟩ : ∃ u, t = 45 :: u := ⟨t.drop 1, drop_at (k := 0) hx1 (hxx.symm.trans hc)⟩
      have HU := hide hu
      have HE : Hid (Bdy t u) := hide (.inr hu)
      obtain ⟨m, hm⟩ : ∃ m, u.length = m := ⟨_, rfl⟩
      have hnm : n = m + 1 := by rw [← HL.out, hu, List.length_cons, hm]
      have HM := hide hm
      have hsu : (bstr u).size = m := by rw [bstr_size, hm]
      have z2 : ((bstr t)[0]'hx0).toNat = 45 := by rw [hc]; rfl
      have z3 : (((bstr t)[0]'hx0).toNat : Int) = 45 := by rw [hc]; rfl
      have hxe : (bstr t).extract 1 n = bstr u := by rw [bstr_ext, hu, List.drop_succ_cons, List.drop_zero, List.take_of_length_le (by omega)]
      clear h0 hc hxx hx1 hu hm
      by_cases hlen : 1 ≤ m ∧ m ≤ 18
      subst hnm
      all_goals go_enter Tryd.func18, Tryd.ntmps18
      · obtain ⟨hl1, hl2⟩ := hlen
        go_wp2_with fail
        go_loop [5, 6] (fun v i => ∃ k : Nat, k ≤ m ∧ i = .int .i64 k ∧ v = .int .i64 ((valF 0 (u.take k) : Nat) : Int) ∧ Hid (digs (u.take k))) (fun _ i => m - (intOf i).toNat)
        case atStart => exact ⟨0, by omega, by first | rfl | go_num, by first | rfl | go_num, hide (by intro c hc; cases hc)⟩
        case round =>
          obtain ⟨k, hk, rfl, rfl, HD⟩ := hrel
          by_cases hlt : k < m
          · have hk1 : k < u.length := by have := HM.out; omega
            have hk2 : k < (bstr u).size := by omega
            have hxx := bstr_ix hk2 hk1
            have z1 : (k : Int) < (m : Int) := by omega
            obtain ⟨cc, hcc⟩ : ∃ cc : Int, ((((bstr u)[k]'hk2).toNat : Nat) : Int) = cc := ⟨_, rfl⟩
            have hcu : (((u[k]'hk1).toNat : Nat) : Int) = cc := by rw [← hxx]; exact hcc
            clear hxx
            have HCU := hide hcu
            clear hcu
            cases hd : dgB cc
            · have HNO : Hid (∀ m', ¬ numOk t m') := hide (fun m' h => by
                obtain ⟨q1, q2, q3, _⟩ := num_len h HE.out
                have q4 := q3 _ (List.getElem_mem hk1)
                have q5 := HCU.out
                unfold dgB at hd
                rw [decide_eq_true (by omega), decide_eq_true (by omega)] at hd
                cases hd)
              go_wp2_with (go_at_call 28; refine (l01Digit_any _ _).mono ?_; rintro e w' ⟨rfl, hw⟩; obtain rfl := hw.symm; rw [hd])
              go_ret2
              exact numR_no HNO.out (Below.refl _ _)
            · have hdd : 48 ≤ cc ∧ cc ≤ 57 := by
                have q := hd
                unfold dgB at q
                rw [Bool.and_eq_true] at q
                exact ⟨of_decide_eq_true q.1, of_decide_eq_true q.2⟩
              obtain ⟨V, hV⟩ : ∃ V, valF 0 (u.take k) = V := ⟨_, rfl⟩
              have hVb : V < 100000000000000000 := by
                rw [← hV]
                have q := valF_lt 0 _ HD.out
                refine Nat.lt_of_lt_of_le q ?_
                rw [List.length_take, Nat.zero_add, Nat.one_mul]
                exact Nat.le_trans (Nat.pow_le_pow_right (by omega) (show min k _ ≤ 17 by omega)) (by decide)
              obtain ⟨h48, h57⟩ := hdd
              have htk : u.take (k + 1) = u.take k ++ [u[k]'hk1] := List.take_succ_eq_append_getElem hk1
              have HV2 : Hid ((10 : Int) * (V : Int) + (cc - 48) = ((valF 0 (u.take (k + 1)) : Nat) : Int)) := hide (by rw [htk, valF_app, hV, valF_cons, valF_nil]; have q := HCU.out; omega)
              have HD2 : Hid (digs (u.take (k + 1))) := hide (by
                rw [htk]
                intro d hdm
                rcases List.mem_append.1 hdm with hdm | hdm
                · exact HD.out d hdm
                · obtain rfl : d = u[k]'hk1 := by simpa using hdm
                  have q := HCU.out
                  omega)
              clear htk HD
              rw [hV]
              have HVV := hide hV
              clear hV
              go_wp2_with (go_at_call 28; refine (l01Digit_any _ _).mono ?_; rintro e w' ⟨rfl, hw⟩; obtain rfl := hw.symm; rw [hd])
              go_round
              case rel => exact ⟨k + 1, by omega, by first | rfl | go_num, congrArg (Value.int .i64) HV2.out, HD2⟩
              case measure => first | (simp [intOf]; done) | (simp [intOf]; omega)
          · obtain ⟨V, hV⟩ : ∃ V, valF 0 (u.take k) = V := ⟨_, rfl⟩
            have hall : u.take k = u := List.take_of_length_le (by have := HM.out; omega)
            have HDU : Hid (digs u) := hide (by have q := HD.out; rw [hall] at q; exact q)
            have HV : Hid (valF 0 u = V) := hide (by rw [← hall]; exact hV)
            have hVb : V < 1000000000000000000 := by
              have q := valF_lt 0 _ HDU.out
              rw [HV.out, Nat.zero_add, Nat.one_mul, HM.out] at q
              exact Nat.lt_of_lt_of_le q (Nat.le_trans (Nat.pow_le_pow_right (by omega) hl2) (by decide))
            clear hall HD
            rw [hV]
            clear hV
            obtain ⟨S, hS⟩ : ∃ S, str (-(V : Int)) = S := ⟨_, rfl⟩
            have HS := hide hS
            clear hS
            have z1 : ¬ (k : Int) < (m : Int) := by omega
            by_cases hc2 : S = bstr t
            · have HOK : Hid (numOk t (-(V : Int))) := hide ⟨by omega, by omega, bstr_inj (HS.out.trans hc2)⟩
              subst hc2
              go_wp2_with fail
              refine (l01Dec_is (n := (-(V : Int))) (by omega) (by omega) HS.out).mono ?_
              rintro e w1 ⟨rfl, hb⟩
              have HB := hide hb
              clear hb
              go_wp2_with fail
              go_ret2
              exact numR_yes HOK.out HB.out
            · have HNO : Hid (∀ m', ¬ numOk t m') := hide (fun m' h => by
                obtain ⟨_, _, _, q4⟩ := num_len h HE.out
                obtain ⟨_, q2, q3⟩ := num_body h HE.out
                rw [HV.out] at q4
                have q5 : m' = (-(V : Int)) := by have := q2 HU.out; omega
                rw [← q5] at HS
                exact hc2 (HS.out.symm.trans (congrArg bstr h.2.2)))
              have hc3 : ¬ bstr t = S := fun e => hc2 e.symm
              have hc4 : (S.toList == (bstr t).toList) = false := list_ne hc2
              go_wp2_with fail
              refine (l01Dec_is (n := (-(V : Int))) (by omega) (by omega) HS.out).mono ?_
              rintro e w1 ⟨rfl, hb⟩
              have HB := hide hb
              clear hb
              go_wp2_with fail
              go_ret2
              exact numR_no HNO.out HB.out
      · have HNO : Hid (∀ m', ¬ numOk t m') := hide (fun m' h => by obtain ⟨q1, q2, _, _⟩ := num_len h HE.out; have := HM.out; omega)
        rcases Nat.lt_or_ge m 1 with hq | hq
        · obtain rfl : m = 0 := by omega
          go_wp2_with fail
          go_ret2
          exact numR_no HNO.out (Below.refl _ _)
        · have z5 : 18 < m := by omega
          have z6 : (18 : Int) < (m : Int) := by omega
          go_wp2_with fail
          go_ret2
          exact numR_no HNO.out (Below.refl _ _)
    · have HNC : Hid (∀ r, t ≠ 45 :: r) := hide (fun r hr => hc (hxx.trans (by simp [hr])))
      have HE : Hid (Bdy t t) := hide (.inl ⟨rfl, fun r hr => hc (hxx.trans (by simp [hr]))⟩)
      have z2 : ¬ ((bstr t)[0]'hx0).toNat = 45 := fun e => hc (UInt8.toNat_inj.1 e)
      have z3 : ¬ (((bstr t)[0]'hx0).toNat : Int) = 45 := by omega
      clear h0 hxx hx1
      by_cases hlen : 1 ≤ n ∧ n ≤ 18
      all_goals go_enter Tryd.func18, Tryd.ntmps18
      · obtain ⟨hl1, hl2⟩ := hlen
        go_wp2_with fail
        go_loop [5, 6] (fun v i => ∃ k : Nat, k ≤ n ∧ i = .int .i64 k ∧ v = .int .i64 ((valF 0 (t.take k) : Nat) : Int) ∧ Hid (digs (t.take k))) (fun _ i => n - (intOf i).toNat)
        case atStart => exact ⟨0, by omega, by first | rfl | go_num, by first | rfl | go_num, hide (by intro c hc; cases hc)⟩
        case round =>
          obtain ⟨k, hk, rfl, rfl, HD⟩ := hrel
          by_cases hlt : k < n
          · have hk1 : k < t.length := by have := HL.out; omega
            have hk2 : k < (bstr t).size := by omega
            have hxx := bstr_ix hk2 hk1
            have z1 : (k : Int) < (n : Int) := by omega
            obtain ⟨cc, hcc⟩ : ∃ cc : Int, ((((bstr t)[k]'hk2).toNat : Nat) : Int) = cc := ⟨_, rfl⟩
            have hcu : (((t[k]'hk1).toNat : Nat) : Int) = cc := by rw [← hxx]; exact hcc
            clear hxx
            have HCU := hide hcu
            clear hcu
            cases hd : dgB cc
            · have HNO : Hid (∀ m', ¬ numOk t m') := hide (fun m' h => by
                obtain ⟨q1, q2, q3, _⟩ := num_len h HE.out
                have q4 := q3 _ (List.getElem_mem hk1)
                have q5 := HCU.out
                unfold dgB at hd
                rw [decide_eq_true (by omega), decide_eq_true (by omega)] at hd
                cases hd)
              go_wp2_with (go_at_call 28; refine (l01Digit_any _ _).mono ?_; rintro e w' ⟨rfl, hw⟩; obtain rfl := hw.symm; rw [hd])
              go_ret2
              exact numR_no HNO.out (Below.refl _ _)
            · have hdd : 48 ≤ cc ∧ cc ≤ 57 := by
                have q := hd
                unfold dgB at q
                rw [Bool.and_eq_true] at q
                exact ⟨of_decide_eq_true q.1, of_decide_eq_true q.2⟩
              obtain ⟨V, hV⟩ : ∃ V, valF 0 (t.take k) = V := ⟨_, rfl⟩
              have hVb : V < 100000000000000000 := by
                rw [← hV]
                have q := valF_lt 0 _ HD.out
                refine Nat.lt_of_lt_of_le q ?_
                rw [List.length_take, Nat.zero_add, Nat.one_mul]
                exact Nat.le_trans (Nat.pow_le_pow_right (by omega) (show min k _ ≤ 17 by omega)) (by decide)
              obtain ⟨h48, h57⟩ := hdd
              have htk : t.take (k + 1) = t.take k ++ [t[k]'hk1] := List.take_succ_eq_append_getElem hk1
              have HV2 : Hid ((10 : Int) * (V : Int) + (cc - 48) = ((valF 0 (t.take (k + 1)) : Nat) : Int)) := hide (by rw [htk, valF_app, hV, valF_cons, valF_nil]; have q := HCU.out; omega)
              have HD2 : Hid (digs (t.take (k + 1))) := hide (by
                rw [htk]
                intro d hdm
                rcases List.mem_append.1 hdm with hdm | hdm
                · exact HD.out d hdm
                · obtain rfl : d = t[k]'hk1 := by simpa using hdm
                  have q := HCU.out
                  omega)
              clear htk HD
              rw [hV]
              have HVV := hide hV
              clear hV
              go_wp2_with (go_at_call 28; refine (l01Digit_any _ _).mono ?_; rintro e w' ⟨rfl, hw⟩; obtain rfl := hw.symm; rw [hd])
              go_round
              case rel => exact ⟨k + 1, by omega, by first | rfl | go_num, congrArg (Value.int .i64) HV2.out, HD2⟩
              case measure => first | (simp [intOf]; done) | (simp [intOf]; omega)
          · obtain ⟨V, hV⟩ : ∃ V, valF 0 (t.take k) = V := ⟨_, rfl⟩
            have hall : t.take k = t := List.take_of_length_le (by have := HL.out; omega)
            have HDU : Hid (digs t) := hide (by have q := HD.out; rw [hall] at q; exact q)
            have HV : Hid (valF 0 t = V) := hide (by rw [← hall]; exact hV)
            have hVb : V < 1000000000000000000 := by
              have q := valF_lt 0 _ HDU.out
              rw [HV.out, Nat.zero_add, Nat.one_mul, HL.out] at q
              exact Nat.lt_of_lt_of_le q (Nat.le_trans (Nat.pow_le_pow_right (by omega) hl2) (by decide))
            clear hall HD
            rw [hV]
            clear hV
            obtain ⟨S, hS⟩ : ∃ S, str (V : Int) = S := ⟨_, rfl⟩
            have HS := hide hS
            clear hS
            have z1 : ¬ (k : Int) < (n : Int) := by omega
            by_cases hc2 : S = bstr t
            · have HOK : Hid (numOk t (V : Int)) := hide ⟨by omega, by omega, bstr_inj (HS.out.trans hc2)⟩
              subst hc2
              go_wp2_with fail
              refine (l01Dec_is (n := (V : Int)) (by omega) (by omega) HS.out).mono ?_
              rintro e w1 ⟨rfl, hb⟩
              have HB := hide hb
              clear hb
              go_wp2_with fail
              go_ret2
              exact numR_yes HOK.out HB.out
            · have HNO : Hid (∀ m', ¬ numOk t m') := hide (fun m' h => by
                obtain ⟨_, _, _, q4⟩ := num_len h HE.out
                obtain ⟨_, q2, q3⟩ := num_body h HE.out
                rw [HV.out] at q4
                have q5 : m' = (V : Int) := by have := q3 HNC.out; omega
                rw [← q5] at HS
                exact hc2 (HS.out.symm.trans (congrArg bstr h.2.2)))
              have hc3 : ¬ bstr t = S := fun e => hc2 e.symm
              have hc4 : (S.toList == (bstr t).toList) = false := list_ne hc2
              go_wp2_with fail
              refine (l01Dec_is (n := (V : Int)) (by omega) (by omega) HS.out).mono ?_
              rintro e w1 ⟨rfl, hb⟩
              have HB := hide hb
              clear hb
              go_wp2_with fail
              go_ret2
              exact numR_no HNO.out HB.out
      · have HNO : Hid (∀ m', ¬ numOk t m') := hide (fun m' h => by obtain ⟨q1, q2, _, _⟩ := num_len h HE.out; have := HL.out; omega)
        rcases Nat.lt_or_ge n 1 with hq | hq
        · omega
        · have z5 : 18 < n := by omega
          have z6 : (18 : Int) < (n : Int) := by omega
          go_wp2_with fail
          go_ret2
          exact numR_no HNO.out (Below.refl _ _)

/-- A text is two numbers about '='. -/
def PairOk (t : List UInt8) (a b : Int) : Prop := ∃ x y, t = x ++ [61] ++ y ∧ numOk x a ∧ numOk y b
theorem pair_split {t : List UInt8} {a b : Int} (h : PairOk t a b) : splitL 61 t = [Lib.itoa a, Lib.itoa b] := by
  obtain ⟨x, y, rfl, hx, hy⟩ := h
  rw [← hx.2.2, ← hy.2.2]
  have := split_join (c := 61) (ws := [Lib.itoa a, Lib.itoa b]) (by simp) (by
    intro w hw
    simp at hw
    rcases hw with rfl | rfl
    · exact itoa_no _ _ (.inr rfl)
    · exact itoa_no _ _ (.inr rfl))
  rw [Lib.join_cons] at this
  simpa [Lib.joinTail] using this
theorem pair_one {t : List UInt8} {a b a' b' : Int} (h : PairOk t a b) (h' : PairOk t a' b') : a = a' ∧ b = b' := by
  have e := (pair_split h).symm.trans (pair_split h')
  injection e with e1 e2
  injection e2 with e2 _
  obtain ⟨x, y, _, hx, hy⟩ := h
  obtain ⟨x', y', _, hx', hy'⟩ := h'
  exact ⟨numOk_one hx ⟨hx'.1, hx'.2.1, by rw [← e1]; exact hx.2.2⟩, numOk_one hy ⟨hy'.1, hy'.2.1, by rw [← e2]; exact hy.2.2⟩⟩
def PairR (w w' : World) (e : Ending) (t : List UInt8) : Prop := ∃ (a b : Int) (ok : Bool), e = .returned (.tuple #[.int .i64 a, .int .i64 b, .bool ok]) ∧ (ok = true → PairOk t a b) ∧ (∀ a' b', PairOk t a' b' → ok = true) ∧ Below w.heap.size w w'
def YesIf (o : Bool) (p : Prop) : Prop := o = true → p
def OkOnly (o : Bool) (p : Int → Prop) : Prop := ∀ m, p m → o = true
theorem pairR_mk {w w' : World} {t x y : List UInt8} {a b : Int} {o1 o2 : Bool} (ht : t = x ++ [61] ++ y) (hs : splitL 61 t = [x, y]) (h1 : YesIf o1 (numOk x a)) (h2 : OkOnly o1 (numOk x)) (h3 : YesIf o2 (numOk y b)) (h4 : OkOnly o2 (numOk y)) (hb : Below w.heap.size w w') : PairR w w' (.returned (.tuple #[.int .i64 a, .int .i64 b, .bool (o1 && o2)])) t := by
  refine ⟨a, b, o1 && o2, rfl, fun h => ?_, fun a' b' h => ?_, hb⟩
  · rw [Bool.and_eq_true] at h
    exact ⟨x, y, ht, h1 h.1, h3 h.2⟩
  · have e := pair_split h
    rw [hs] at e
    injection e with e1 e2
    injection e2 with e2 _
    obtain ⟨x', y', _, hx, hy⟩ := h
    rw [h2 a' ⟨hx.1, hx.2.1, e1.symm⟩, h4 b' ⟨hy.1, hy.2.1, e2.symm⟩]
    rfl

set_option maxRecDepth 100000 in
set_option maxHeartbeats 2000000 in
theorem l05Pair_any (t : List UInt8) (n : Nat) (hl : t.length = n) (hn : n ≤ 1048576) (w : World) :
    Calls Tryd.prog 10 #[.string (bstr t), .int .u8 61] w fun e w' => PairR w w' e t := by
  by_cases h2 : (splitL 61 t).length = 2
  · obtain ⟨x, y, hxy⟩ : ∃ x y, splitL 61 t = [x, y] := by
      generalize splitL 61 t = L at h2
      match L, h2 with
      | [x, y], _ => exact ⟨x, y, rfl⟩
    have HT : Hid (t = x ++ [61] ++ y) := hide (by have := join_split 61 t; rw [hxy, Lib.join_cons] at this; rw [← this]; simp [Lib.joinTail])
    have HXY := hide hxy
    have hlx : x.length + y.length + 1 = n := by rw [← hl, HT.out]; simp; omega
    clear h2 hxy
    go_enter Tryd.func10, Tryd.ntmps10
    go_wp2_with fail
    refine (l01Split_any t 61 n hl hn _).mono ?_
    rintro e w1 ⟨v, rfl, ho, hb⟩
    have hs1 := hb.size
    rw [HXY.out] at ho
    obtain ⟨g, c2, rfl⟩ := Joins.ownsRow_form ho.1 (by simp)
    obtain ⟨A, c, e, _, _, hr⟩ := ho.rd
    injection e with e1 _ e2
    subst e1
    subst e2
    obtain ⟨b, off, e, hb1, hb2, hc⟩ := hr.2 (by simp)
    injection e with e
    injection e with e1 e2 _
    subst e1
    subst e2
    have c0 := hc 0 _ (rfl : (strs [x, y])[0]? = some (.string (bstr x)))
    have c1 := hc 1 _ (rfl : (strs [x, y])[1]? = some (.string (bstr y)))
    rw [Nat.zero_add] at c0 c1
    have HB := hide hb
    clear hb ho hr hc
    have hlen2 : ([x, y] : List (List UInt8)).length = 2 := rfl
    rw [hlen2]
    go_wp2_with fail
    refine (l01Number_any x _ rfl (by omega) _).mono ?_
    rintro e w2 ⟨a, o1, rfl, n1, n2, hb3⟩
    have c1' := (hb3.cell (p := ⟨g, 1, none⟩) (by omega)).trans c1
    have HN1 : Hid (YesIf o1 (numOk x a)) := hide n1
    have HN2 : Hid (OkOnly o1 (numOk x)) := hide n2
    have HB2 := hide (HB.out.trans (hb3.mono hs1))
    clear n1 n2 hb3 c0 c1
    have hs2 := HB2.out.size
    go_wp2_with fail
    refine (l01Number_any y _ rfl (by omega) _).mono ?_
    rintro e w3 ⟨b, o2, rfl, n1, n2, hb3⟩
    have HN3 : Hid (YesIf o2 (numOk y b)) := hide n1
    have HN4 : Hid (OkOnly o2 (numOk y)) := hide n2
    have HB3 := hide (HB2.out.trans (hb3.mono hs2))
    clear n1 n2 hb3 c1'
    cases o1
    all_goals cases o2
    all_goals
      go_wp2_with fail
      go_ret3
      have q := pairR_mk HT.out HXY.out HN1.out HN2.out HN3.out HN4.out HB3.out
      exact q
  · have HNO : Hid (∀ a' b', ¬ PairOk t a' b') := hide (fun a' b' h => h2 (by rw [pair_split h]; rfl))
    obtain ⟨k, hk⟩ : ∃ k, (splitL 61 t).length = k := ⟨_, rfl⟩
    have z1 : ¬ k = 2 := by omega
    have z2 : ¬ (k : Int) = 2 := by omega
    clear h2
    go_enter Tryd.func10, Tryd.ntmps10
    go_wp2_with fail
    refine (l01Split_any t 61 n hl hn _).mono ?_
    rintro e w1 ⟨v, rfl, ho, hb⟩
    have hs1 := hb.size
    rw [hk] at ho
    obtain ⟨A, c, rfl, _, _, _⟩ := ho.rd
    have HB := hide hb
    clear hb ho hk
    go_wp2_with fail
    go_ret3
    exact ⟨0, 0, false, rfl, (fun h => by cases h), (fun a' b' h => absurd h (HNO.out a' b')), HB.out⟩

end Go.Proofs.YtclfhegjfjcjeaaDoor
