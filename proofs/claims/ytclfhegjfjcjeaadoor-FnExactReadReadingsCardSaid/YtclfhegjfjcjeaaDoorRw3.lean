/-
  THE PROGRAM's READERS: words, a cut at a sign, a number. No condition but those that each theorem names.
-/
import Derived.Test.YtclfhegjfjcjeaaDoorRp
import Derived.Laws.AppendOwn
import Derived.BigQuiet
import Derived.Lib.IndexBytes
import Derived.Lib.SmallJoins
namespace Go.Proofs.YtclfhegjfjcjeaaDoor
open Go.RowKit
set_option linter.unusedVariables false
set_option linter.unusedSimpArgs false

set_option maxHeartbeats 1000000 in
theorem blank_any (x : Nat) (w : World) : Calls Tryd.prog 22 #[encR x] w fun e w' => e = .returned (.bool (blank x)) ∧ w' = w := by
  unfold encR
  by_cases h : x = 32
  · have h2 : (x : Int) = 32 := by omega
    have HB : Hid (blank x = true) := hide (decide_eq_true h)
    go_enter Tryd.func22, Tryd.ntmps22
    go_wp2_with fail
    go_ret
    exact ⟨by rw [HB.out]; simp [h2], rfl⟩
  · have h2 : ¬ (x : Int) = 32 := by omega
    have HB : Hid (blank x = false) := hide (decide_eq_false h)
    go_enter Tryd.func22, Tryd.ntmps22
    go_wp2_with fail
    go_ret
    exact ⟨by rw [HB.out]; simp [h2], rfl⟩
theorem blank_at (w : World) : PredAtRunes Tryd.prog 22 #[] blank w := fun W x _ _ => by
  refine (blank_any x W).mono ?_
  rintro e w' ⟨rfl, rfl⟩
  exact ⟨rfl, 0, rfl⟩

set_option maxRecDepth 100000 in
set_option maxHeartbeats 2000000 in
theorem splitWords_any (t : List UInt8) (hn : t.length ≤ 1048576) (w : World) :
    Calls Tryd.prog 12 #[.string (bstr t)] w fun e w' => ∃ (v : Value) (ws : List (List UInt8)), e = .returned v ∧ ws.length ≤ 1048576 ∧ (∀ x ∈ ws, x.length ≤ 1048576) ∧ ((∀ b ∈ t, b.toNat < 128) → ws = fldL [] t) ∧ Own w' w.heap.size w'.heap.size 9 1 v ws.length (strs ws) ∧ Below w.heap.size w w' := by
  have hsz : (bstr t).size = t.length := bstr_size t
  go_enter Tryd.func12, Tryd.ntmps12
  go_wp2_with fail
  refine (Tryd.strings_FieldsFunc_runes 22 #[] ?_ blank (bstr t) _ (by omega) (blank_at _)).mono ?_
  · exact enters_of Tryd.func22 (by kernel_rfl) rfl
  rintro e w1 ⟨A, rfl, hA, ho, hb⟩
  have HO := hide ho
  have HB := hide hb
  clear ho hb
  go_wp2_with fail
  go_ret
  refine ⟨_, (Lib.goFieldsP blank (bstr t)).map (fun x => x.data.toList), rfl, ?_, ?_, ?_, ?_, HB.out⟩
  · have := fields_count blank (bstr t)
    rw [List.length_map]
    omega
  · intro x hx
    obtain ⟨y, hy, rfl⟩ := List.mem_map.1 hx
    unfold Lib.goFieldsP at hy
    obtain ⟨p, _, rfl⟩ := List.mem_map.1 hy
    rw [Lib.extract_data, List.length_take, List.length_drop]
    have : (bstr t).data.toList.length = t.length := by simp [bstr]
    omega
  · intro hb
    have := fields_low (bstr t) (by simpa [bstr] using hb)
    rw [this]
    simp [bstr]
  · rw [List.length_map]
    have e : strs ((Lib.goFieldsP blank (bstr t)).map (fun x => x.data.toList)) = (Lib.goFieldsP blank (bstr t)).map Value.string := by
      unfold strs
      rw [List.map_map]
      refine List.map_congr_left fun x _ => ?_
      simp [bstr_all]
    rw [e]
    exact Own.of_owns HO.out

theorem idx_cases (l : List UInt8) (c : UInt8) : (Lib.indexByte l c = -1 ∧ c ∉ l) ∨ ∃ k : Nat, Lib.indexByte l c = k ∧ k < l.length ∧ l = l.take k ++ [c] ++ l.drop (k + 1) ∧ c ∉ l.take k := by
  induction l with
  | nil => exact .inl ⟨rfl, by simp⟩
  | cons b l ih =>
    by_cases hb : b = c
    · subst hb
      exact .inr ⟨0, by simp [Lib.indexByte], by simp, by simp, by simp⟩
    · rcases ih with ⟨h1, h2⟩ | ⟨k, h1, h2, h3, h4⟩
      · refine .inl ⟨by simp [Lib.indexByte, hb, h1], ?_⟩
        intro h
        rcases List.mem_cons.1 h with h | h
        · exact hb h.symm
        · exact h2 h
      · refine .inr ⟨k + 1, ?_, by simp; omega, ?_, ?_⟩
        · unfold Lib.indexByte
          rw [if_neg (by simpa using hb), h1, if_neg (by simp)]
          simp
        · rw [List.take_succ_cons, List.drop_succ_cons, List.cons_append, List.cons_append, ← h3]
        · rw [List.take_succ_cons]
          intro h
          rcases List.mem_cons.1 h with h | h
          · exact hb h.symm
          · exact h4 h
theorem cut_one {c : UInt8} {x y x' y' : List UInt8} (h : x ++ [c] ++ y = x' ++ [c] ++ y') (hx : c ∉ x) (hx' : c ∉ x') : x = x' ∧ y = y' := by
  have e1 := cut_at (b := y) hx
  have e2 := cut_at (b := y') hx'
  rw [h, e2] at e1
  injection e1 with e3 e4
  injection e4 with e4 _
  exact ⟨e3.symm, e4.symm⟩

theorem bstr_dl (l : List UInt8) : (bstr l).data.toList = l := by simp [bstr]
set_option maxRecDepth 100000 in
set_option maxHeartbeats 2000000 in
theorem cutLite_any (l : List UInt8) (hn : l.length ≤ 1048576) (w : World) :
    Calls Tryd.prog 23 #[.string (bstr l), .string ⟨#[61]⟩] w fun e w' => ∃ (x y : List UInt8) (f : Bool), e = .returned (.tuple #[.string (bstr x), .string (bstr y), .bool f]) ∧ x.length ≤ l.length ∧ y.length ≤ l.length ∧ Hid (∀ x' y', (61 : UInt8) ∉ x' → l = x' ++ [61] ++ y' → x = x' ∧ y = y') ∧ ∃ q, w' = w.drewN q := by
  rcases idx_cases l 61 with ⟨h1, h2⟩ | ⟨k, h1, h2, h3, h4⟩
  · have HI := hide h1
    have HNO : Hid (∀ x' y', (61 : UInt8) ∉ x' → l = x' ++ [61] ++ y' → l = x' ∧ ([] : List UInt8) = y') := hide (fun x' y' _ e => absurd (by rw [e]; simp) h2)
    clear h1 h2
    go_enter Tryd.func23, Tryd.ntmps23
    go_wp2_with fail
    refine (Tryd.stringslite_Index_one (bstr l) 61 _).mono ?_
    rintro e w' ⟨rfl, rfl⟩
    rw [bstr_dl, HI.out]
    go_wp2_with fail
    go_ret3
    exact ⟨l, [], false, rfl, Nat.le_refl _, Nat.zero_le _, HNO, 0, rfl⟩
  · have HI := hide h1
    have HYES : Hid (∀ x' y', (61 : UInt8) ∉ x' → l = x' ++ [61] ++ y' → l.take k = x' ∧ l.drop (k + 1) = y') := hide (fun x' y' hx e => cut_one (h3.symm.trans e) h4 hx)
    clear h1 h3 h4
    have hsz : (bstr l).size = l.length := bstr_size l
    have HE1 : Hid ((bstr l).extract 0 k = bstr (l.take k)) := hide (by rw [bstr_ext]; rfl)
    have HE2 : Hid ((bstr l).extract (k + 1) l.length = bstr (l.drop (k + 1))) := hide (by rw [bstr_ext, List.take_of_length_le (by rw [List.length_drop]; omega)])
    have z1 : k ≤ (bstr l).size := by omega
    have z2 : k + 1 ≤ (bstr l).size := by omega
    have z3 : (k : Int) + 1 ≤ (l.length : Int) := by omega
    have z4 : (k : Int) ≤ (l.length : Int) := by omega
    go_enter Tryd.func23, Tryd.ntmps23
    go_wp2_with fail
    refine (Tryd.stringslite_Index_one (bstr l) 61 _).mono ?_
    rintro e w' ⟨rfl, rfl⟩
    rw [bstr_dl, HI.out]
    go_wp2_with fail
    go_quiet (fail)
    go_wp2_with fail
    go_ret3
    refine ⟨l.take k, l.drop (k + 1), true, by rw [← HE1.out, ← HE2.out]; rfl, by simp; omega, by simp, HYES.out, nq, rfl⟩

set_option maxRecDepth 100000 in
set_option maxHeartbeats 2000000 in
theorem cut_any (l : List UInt8) (hn : l.length ≤ 1048576) (w : World) :
    Calls Tryd.prog 13 #[.string (bstr l), .string ⟨#[61]⟩] w fun e w' => ∃ (x y : List UInt8) (f : Bool), e = .returned (.tuple #[.string (bstr x), .string (bstr y), .bool f]) ∧ x.length ≤ l.length ∧ y.length ≤ l.length ∧ Hid (∀ x' y', (61 : UInt8) ∉ x' → l = x' ++ [61] ++ y' → x = x' ∧ y = y') ∧ ∃ q, w' = w.drewN q := by
  go_enter Tryd.func13, Tryd.ntmps13
  go_wp2_with fail
  refine (cutLite_any l hn _).mono ?_
  rintro e w1 ⟨x, y, f, rfl, h1, h2, h3, q, rfl⟩
  go_wp2_with fail
  go_ret3
  exact ⟨x, y, f, rfl, h1, h2, h3, q, rfl⟩

/-- The two sentinels are laid. -/
def Er1 (n : String) (w : World) : Prop := ∃ tp p, w.var? Tryd.prog n = some #[.iface tp p]
def Er (w : World) : Prop := Er1 "strconv.ErrSyntax" w ∧ Er1 "strconv.ErrRange" w
theorem Er1.below {n : String} {w w' : World} {B : Nat} (h : Er1 n w) (hb : Below B w w') (hB : w.heap.size ≤ B) : Er1 n w' := by
  obtain ⟨tp, p, h⟩ := h
  refine ⟨tp, p, ?_⟩
  unfold World.var? at h ⊢
  cases hg : Tryd.prog.globalNamed n with
  | none => rw [hg] at h; cases h
  | some g =>
    rw [hg] at h
    simp only [Option.bind_some] at h ⊢
    have hlt : g < w.heap.size := by
      rcases Nat.lt_or_ge g w.heap.size with h' | h'
      · exact h'
      · simp [Array.getElem?_eq_none h'] at h
    rw [hb.block g (by omega)]
    exact h
theorem Er.below {w w' : World} {B : Nat} (h : Er w) (hb : Below B w w') (hB : w.heap.size ≤ B) : Er w' := ⟨h.1.below hb hB, h.2.below hb hB⟩
theorem Er.drewN {w : World} (h : Er w) (n : Nat) : Er (w.drewN n) := h
theorem parse_range {l : List UInt8} {v : Int} (h : Lib.parseIntB 64 l = .ok v) : -9223372036854775808 ≤ v ∧ v ≤ 9223372036854775807 := by
  unfold Lib.parseIntB at h
  split at h
  · cases h
  · simp only at h
    split at h
    · cases h
    · cases h
    · split at h
      · cases h
      · split at h
        · cases h
        · rename_i h1 h2
          injection h with h
          rw [show (2 : Nat) ^ (64 - 1) = 9223372036854775808 by decide] at h1 h2
          split at h <;> omega
def RdM (t : List UInt8) (m : Int) (ok : Bool) : Prop := ∀ m', numOk t m' → ok = true ∧ m = m'
theorem trim_len {t : List UInt8} {m : Int} (h : numOk t m) : (Lib.trimPrefix t [45]).length ≤ 18 := by
  obtain ⟨h1, h2, rfl⟩ := h
  unfold Lib.trimPrefix Lib.hasPrefix Lib.itoa
  by_cases hm : m < 0
  · rw [if_pos hm]
    simp [List.isPrefixOf]
    exact nDigits_18 _ (by omega)
  · rw [if_neg hm]
    have := nDigits_18 m.toNat (by omega)
    split
    · rw [List.length_drop]; omega
    · exact this

set_option maxRecDepth 100000 in
set_option maxHeartbeats 2000000 in
theorem readDecimal_any (t : List UInt8) (hn : t.length ≤ 1048576) (w : World) (ht : Tb w) (he : Er w) :
    Calls Tryd.prog 24 #[.string (bstr t)] w fun e w' => ∃ (m : Int) (ok : Bool), e = .returned (.tuple #[.int .i64 m, .bool ok]) ∧ Hid (RdM t m ok) ∧ Below w.heap.size w w' := by
  obtain ⟨T, hT⟩ : ∃ T, Lib.trimPrefix t [45] = T := ⟨_, rfl⟩
  obtain ⟨n, hTl⟩ : ∃ n, T.length = n := ⟨_, rfl⟩
  have HT : Hid ((⟨(Lib.trimPrefix (bstr t).data.toList (⟨#[45]⟩ : ByteArray).data.toList).toArray⟩ : ByteArray) = bstr T) := hide (by rw [bstr_dl, ← hT]; rfl)
  have HTT := hide hT
  have HTL := hide hTl
  have hsz : (bstr T).size = n := by rw [bstr_size, hTl]
  have HTB := hide ht
  have HER := hide he
  clear hT hTl ht he
  by_cases hlong : 18 < n
  · have z1 : 18 < (bstr T).size := by omega
    have z2 : (18 : Int) < (n : Int) := by omega
    have HNO : Hid (RdM t 0 false) := hide (fun m' h => by have := trim_len h; rw [HTT.out] at this; have := HTL.out; omega)
    go_enter Tryd.func24, Tryd.ntmps24
    go_wp2_with fail
    refine (Tryd.strings_TrimPrefix (bstr t) ⟨#[45]⟩ _).mono ?_
    rintro e w' ⟨rfl, hw⟩
    obtain rfl := hw.symm
    rw [HT.out]
    go_wp2_with fail
    go_ret2
    exact ⟨0, false, rfl, HNO, Below.refl _ _⟩
  · have hst : (bstr t).size = t.length := bstr_size t
    have z1 : ¬ 18 < n := hlong
    have z2 : ¬ (18 : Int) < (n : Int) := by omega
    cases hp : Lib.parseIntB 64 t
    · rename_i v
      obtain ⟨hv0, hv1⟩ := parse_range hp
      obtain ⟨S, hS⟩ : ∃ S, str v = S := ⟨_, rfl⟩
      have HS := hide hS
      have HPV : Hid (Lib.parseIntB 64 (bstr t).data.toList = .ok v) := hide (by rw [bstr_dl]; exact hp)
      have HVM : Hid (∀ m', numOk t m' → v = m') := hide (fun m' h => by have q := parse_itoa h.1 h.2.1; rw [h.2.2, hp] at q; injection q)
      clear hS hp
      by_cases hc : S = bstr t
      · have HR : Hid (RdM t v true) := hide (fun m' h => ⟨rfl, HVM.out m' h⟩)
        subst hc
        go_enter Tryd.func24, Tryd.ntmps24
        go_wp2_with fail
        refine (Tryd.strings_TrimPrefix (bstr t) ⟨#[45]⟩ _).mono ?_
        rintro e w' ⟨rfl, hw⟩
        obtain rfl := hw.symm
        rw [HT.out]
        go_wp2_with fail
        refine (Tryd.strconv_ParseInt_10_at64_ok (bstr t) (by omega) v HPV.out _).mono ?_
        rintro e w1 ⟨rfl, hw⟩
        have hb : Below w.heap.size w w1 := by
          rcases hw with rfl | ⟨z, rfl⟩
          · exact Below.refl _ _
          · exact Joins.below_bytesWorld _ _ _ _ (Nat.le_refl _)
        have HB := hide hb
        have hs1 := hb.size
        clear hw hb
        go_wp2_with fail
        refine (decimal_is hv0 hv1 HS.out (HTB.out.below HB.out (Nat.le_refl _))).mono ?_
        rintro e w2 ⟨rfl, hb⟩
        have HB2 := hide (HB.out.trans (hb.mono hs1))
        clear hb
        go_wp2_with fail
        go_ret2
        exact ⟨v, true, rfl, HR, HB2.out⟩
      · have HR : Hid (RdM t 0 false) := hide (fun m' h => absurd (HS.out.symm.trans (by rw [HVM.out m' h]; exact congrArg bstr h.2.2)) hc)
        have hc3 : ¬ bstr t = S := fun e => hc e.symm
        have hc4 : (S.toList == (bstr t).toList) = false := list_ne hc
        go_enter Tryd.func24, Tryd.ntmps24
        go_wp2_with fail
        refine (Tryd.strings_TrimPrefix (bstr t) ⟨#[45]⟩ _).mono ?_
        rintro e w' ⟨rfl, hw⟩
        obtain rfl := hw.symm
        rw [HT.out]
        go_wp2_with fail
        refine (Tryd.strconv_ParseInt_10_at64_ok (bstr t) (by omega) v HPV.out _).mono ?_
        rintro e w1 ⟨rfl, hw⟩
        have hb : Below w.heap.size w w1 := by
          rcases hw with rfl | ⟨z, rfl⟩
          · exact Below.refl _ _
          · exact Joins.below_bytesWorld _ _ _ _ (Nat.le_refl _)
        have HB := hide hb
        have hs1 := hb.size
        clear hw hb
        go_wp2_with fail
        refine (decimal_is hv0 hv1 HS.out (HTB.out.below HB.out (Nat.le_refl _))).mono ?_
        rintro e w2 ⟨rfl, hb⟩
        have HB2 := hide (HB.out.trans (hb.mono hs1))
        clear hb
        go_wp2_with fail
        go_ret2
        exact ⟨0, false, rfl, HR, HB2.out⟩
    · have HPV : Hid (Lib.parseIntB 64 (bstr t).data.toList = .«syntax») := hide (by rw [bstr_dl]; exact hp)
      have HR : Hid (RdM t 0 false) := hide (fun m' h => by have q := parse_itoa h.1 h.2.1; rw [h.2.2, hp] at q; cases q)
      clear hp
      obtain ⟨tp, p, hvar⟩ := HER.out.1
      have HVAR := hide hvar
      clear hvar
      go_enter Tryd.func24, Tryd.ntmps24
      go_wp2_with fail
      refine (Tryd.strings_TrimPrefix (bstr t) ⟨#[45]⟩ _).mono ?_
      rintro e w' ⟨rfl, hw⟩
      obtain rfl := hw.symm
      rw [HT.out]
      go_wp2_with fail
      refine (Tryd.strconv_ParseInt_10_at64_syntax_var (bstr t) (by omega) HPV.out tp p _ HVAR.out).mono ?_
      rintro e w1 ⟨N, rfl, _, _, hb⟩
      have HB := hide hb
      clear hb
      go_wp2_with fail
      go_ret2
      exact ⟨0, false, rfl, HR, HB.out⟩
    · have HPV : Hid (Lib.parseIntB 64 (bstr t).data.toList = .range) := hide (by rw [bstr_dl]; exact hp)
      have HR : Hid (RdM t 0 false) := hide (fun m' h => by have q := parse_itoa h.1 h.2.1; rw [h.2.2, hp] at q; cases q)
      clear hp
      obtain ⟨tp, p, hvar⟩ := HER.out.2
      have HVAR := hide hvar
      clear hvar
      go_enter Tryd.func24, Tryd.ntmps24
      go_wp2_with fail
      refine (Tryd.strings_TrimPrefix (bstr t) ⟨#[45]⟩ _).mono ?_
      rintro e w' ⟨rfl, hw⟩
      obtain rfl := hw.symm
      rw [HT.out]
      go_wp2_with fail
      refine (Tryd.strconv_ParseInt_10_at64_range_var (bstr t) (by omega) HPV.out tp p _ HVAR.out).mono ?_
      rintro e w1 ⟨N, rfl, _, _, hb⟩
      have HB := hide hb
      clear hb
      go_wp2_with fail
      go_ret2
      exact ⟨0, false, rfl, HR, HB.out⟩

end Go.Proofs.YtclfhegjfjcjeaaDoor
