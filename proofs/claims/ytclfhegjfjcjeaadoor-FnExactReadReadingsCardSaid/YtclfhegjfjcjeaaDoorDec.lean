/-
  NUMBERS IN DECIMAL: the library's and the reference's text of a number. No condition but those that each theorem names.
-/
import Derived.Test.YtclfhegjfjcjeaaDoorShf
import Derived.Test.YtclfhegjfjcjeaaDoorBox
import Derived.Test.YtclfhegjfjcjeaaDoorNum
import Derived.Laws.BytesArg
import Derived.Lib.ItoaLen
import Derived.Lib.LazyBuf
import Derived.Lib.AppendIntMem
import Derived.Lib.LaidTab
import Derived.Deep.DeepCutAuto
namespace Go.Proofs.YtclfhegjfjcjeaaDoor
open Go.RowKit
set_option linter.unusedVariables false
set_option linter.unusedSimpArgs false

/-- The library's table of powers of ten stands as its text lays it. -/
def Tb (w : World) : Prop := Lib.TabIs Tryd.prog w "internal/strconv.uint64pow10" .u64 Lib.pow10Tab
theorem gPow : ∃ g, Tryd.prog.globalNamed "internal/strconv.uint64pow10" = some g := ⟨_, rfl⟩
theorem Tb.below {w w' : World} {B : Nat} (h : Tb w) (hb : Below B w w') (hB : w.heap.size ≤ B) : Tb w' := by
  obtain ⟨g, hg⟩ := gPow
  unfold Tb Lib.TabIs World.var? at h ⊢
  rw [hg] at h ⊢
  simp only [Option.bind_some] at h ⊢
  have hlt : g < w.heap.size := by
    rcases Nat.lt_or_ge g w.heap.size with h' | h'
    · exact h'
    · simp [Array.getElem?_eq_none h'] at h
  rw [hb.block g (by omega)]
  exact h
theorem Tb.drew {w : World} (h : Tb w) : Tb w.drew := h
theorem Tb.drewN {w : World} (h : Tb w) (n : Nat) : Tb (w.drewN n) := h
/-- The text of a number. -/
def str (n : Int) : ByteArray := ⟨(Lib.itoa n).toArray⟩
theorem str_size {n : Int} (h0 : -9223372036854775808 ≤ n) (h1 : n ≤ 9223372036854775807) : (str n).size ≤ 21 := by
  have := Lib.itoa_length_le n h0 h1
  simpa [str, ByteArray.size] using this
theorem fmt_is {n : Int} (h0 : -9223372036854775808 ≤ n) (h1 : n ≤ 9223372036854775807) {s : ByteArray} (hs : str n = s) {w : World} (ht : Tb w) :
    Calls Tryd.prog 33 #[.int .i64 n, .int .i64 10] w fun e w' => e = .returned (.string s) ∧ Below w.heap.size w w' := by
  subst hs
  exact (Tryd.strconv_FormatInt_10 n h0 h1 w ht).mono fun e w' ⟨he, k, os, hw⟩ => ⟨he, hw ▸ Lib.below_grow _ w (Nat.le_refl _) k os⟩
theorem dec_small {u : Nat} (h : u < 10) : Lib.decDigits u = [UInt8.ofNat (48 + u)] := Lib.decDigits_one h
theorem dec_big {u : Nat} (h : ¬ u < 10) : Lib.decDigits u = Lib.decDigits (u / 10) ++ [UInt8.ofNat (48 + u % 10)] := by rw [Lib.decDigits, dif_neg h]
/-- What the digits that are left and those that are written make together. -/
def dleft (u : Nat) (l : List UInt8) : List UInt8 := if u = 0 then l else Lib.decDigits u ++ l
theorem dleft_next {u : Nat} (h : u ≠ 0) (l : List UInt8) : dleft (u / 10) (UInt8.ofNat (48 + u % 10) :: l) = dleft u l := by
  unfold dleft
  rw [if_neg h]
  by_cases h2 : u < 10
  · rw [if_pos (by omega), dec_small h2, show u % 10 = u by omega]; rfl
  · rw [if_neg (by omega), dec_big h2, List.append_assoc]; rfl
theorem dleft_len (u : Nat) (l : List UInt8) : l.length ≤ (dleft u l).length := by
  unfold dleft
  split <;> simp
theorem dec_len {n : Int} (h0 : -9223372036854775808 ≤ n) (h1 : n ≤ 9223372036854775807) : (Lib.decDigits n.natAbs).length ≤ 21 := by
  have h := Lib.itoa_length_le n h0 h1
  unfold Lib.itoa at h
  split at h
  · simp at h; omega
  · rename_i hh
    rw [show n.natAbs = n.toNat by omega]; exact h
theorem u8cell (m : Nat) (h : m ≤ 9) : Value.int .u8 (48 + (m : Int)) = .int .u8 ((UInt8.ofNat (48 + m)).toNat : Int) := by
  match m, h with
  | 0, _ => rfl
  | 1, _ => rfl
  | 2, _ => rfl
  | 3, _ => rfl
  | 4, _ => rfl
  | 5, _ => rfl
  | 6, _ => rfl
  | 7, _ => rfl
  | 8, _ => rfl
  | 9, _ => rfl
theorem str_zero : str 0 = ⟨#[48]⟩ := by
  unfold str Lib.itoa
  rw [if_neg (by omega), show (0 : Int).toNat = 0 from rfl, dec_small (by omega)]
  rfl
def u8s (l : List UInt8) : List Value := l.map fun c => Value.int .u8 (c.toNat : Int)
theorem u8s_len (l : List UInt8) : (u8s l).length = l.length := by simp [u8s]
theorem u8s_one (l : List UInt8) : ∀ u ∈ u8s l, u.oneCell' = true := by
  intro u hu
  simp only [u8s, List.mem_map] at hu
  obtain ⟨c, _, rfl⟩ := hu
  rfl
theorem conv_bytes {w : World} {g cap : Nat} {l : List UInt8} {base : Nat} (h : w.ownsRow base 5 1 (.slice (some ⟨g, 0, none⟩) l.length cap) l.length (u8s l)) :
    (convert 63 9 (.slice (some ⟨g, 0, none⟩) l.length cap)).run Tryd.prog w = .ok (.string ⟨l.toArray⟩) w := by
  rw [← Lib.Lz.strOfNums_map]
  refine run_convert_bytes_arg w _ _ Tryd.underlying63 Tryd.underlying5 g 0 l.length cap (l.map fun b => (b.toNat : Int)) (by rw [List.length_map]) (fun i hi => ?_) _ Tryd.underlying9
  have hc := h.cellAt i (by rw [Nat.mul_one]; exact hi)
  rw [Nat.zero_add, hc, u8s]
  simp [List.getD, hi]
theorem own_lit1 {w : World} {T : TypeId} {v : Value} {base : Nat} (hb : base ≤ w.heap.size) : (w.alloc (.cells #[v] T)).ownsRow base T 1 (.slice (some ⟨w.heap.size, 0, none⟩) 1 1) 1 [v] :=
  ⟨rfl, .inr ⟨w.heap.size, 1, #[v], rfl, hb, heap_alloc_new w _, Nat.le_refl _, by unfold maxLen; omega, rfl, rfl⟩⟩
theorem infoU8 : (Tryd.prog.info? 5).map (fun i => (i.zero, i.size, i.bytes)) = some (some (.int .u8 0), 1, 1) := by kernel_rfl
theorem tdiv_abs (k : Int) : (k.tdiv 10).natAbs = k.natAbs / 10 := by rw [Int.natAbs_tdiv]; rfl
theorem tmod_abs (k : Int) : (k.tmod 10).natAbs = k.natAbs % 10 := by rw [Int.natAbs_tmod]; rfl
theorem retstr {s t : ByteArray} (h : s = t) : Ending.returned (.string s) = .returned (.string t) := by rw [h]

set_option maxRecDepth 100000 in
set_option maxHeartbeats 2000000 in
theorem decimal_is {n : Int} (h0 : -9223372036854775808 ≤ n) (h1 : n ≤ 9223372036854775807) {s : ByteArray} (hs : str n = s) {w : World} (ht : Tb w) :
    Calls Tryd.prog 26 #[.int .i64 n] w fun e w' => e = .returned (.string s) ∧ Below w.heap.size w w' := by
  have HS := hide hs
  have HT := hide ht
  clear hs ht
  go_enter Tryd.func26, Tryd.ntmps26
  go_wp2_with fail
  refine (fmt_is h0 h1 HS.out HT.out).mono ?_
  rintro e w1 ⟨rfl, hb⟩
  go_wp2_with fail
  go_ret
  exact ⟨rfl, hb⟩

set_option maxRecDepth 100000 in
set_option maxHeartbeats 2000000 in
theorem l01Dec_is {n : Int} (h0 : -9223372036854775808 ≤ n) (h1 : n ≤ 9223372036854775807) {s : ByteArray} (hs : str n = s) {w : World} :
    Calls Tryd.prog 29 #[.int .i64 n] w fun e w' => e = .returned (.string s) ∧ Below w.heap.size w w' := by
  obtain ⟨i0, hi0, hz0, hz1, hz2⟩ := info_parts infoU8
  have I := hide (And.intro hi0 (And.intro hz0 (And.intro hz1 hz2)))
  clear hi0 hz0 hz1 hz2
  have HS := hide hs
  clear hs
  go_enter Tryd.func29, Tryd.ntmps29
  go_wp2_with fail
  go_loopw [3, 4] (fun ov kv wr => ∃ (k : Int) (l : List UInt8) (g cap : Nat), kv = .int .i64 k ∧ ov = .slice (some ⟨g, 0, none⟩) l.length cap ∧ wr.ownsRow w.heap.size 5 1 (.slice (some ⟨g, 0, none⟩) l.length cap) l.length (u8s l) ∧ -9223372036854775808 ≤ k ∧ k ≤ 9223372036854775807 ∧ k.natAbs ≤ n.natAbs ∧ Hid (n ≠ 0 → dleft k.natAbs l = Lib.decDigits n.natAbs) ∧ Hid (n = 0 → l = []) ∧ Hid (n = 0 → k = 0) ∧ l.length + k.natAbs ≤ n.natAbs ∧ Below w.heap.size w wr) (fun _ kv _ => (intOf kv).natAbs)
  case atStart => exact ⟨n, [], w.heap.size, 0, rfl, rfl, World.ownsRow_made _ _ 0 (Nat.le_refl _) (Nat.zero_le _) rfl, h0, h1, Nat.le_refl _, hide (fun h => by unfold dleft; rw [if_neg (by omega), List.append_nil]), hide (fun _ => rfl), hide (fun h => h), by simp, (Below.refl _ _).alloc (Nat.le_refl _) _⟩
  case round =>
    obtain ⟨k, l, g, cap, rfl, rfl, ho, k0, k1, k2, HD, HZ, HZ2, hle, hbr⟩ := hrel
    have hsz := hbr.size
    have hmx := hle
    by_cases hk : k = 0
    · skip
      have e0 : n.natAbs = 0 → n = 0 := by omega
      have ho2 := hide ho
      clear ho
      subst hk
      by_cases hn : n = 0
      · have hl := HZ.out hn
        subst hl
        subst hn
        go_wp2_with fail
        go_ret
        exact ⟨retstr (by rw [← HS.out, str_zero]), hbr⟩
      have hd : l = Lib.decDigits n.natAbs := by have := HD.out hn; unfold dleft at this; rw [if_pos (by simp)] at this; exact this
      have hlen : l.length ≤ 21 := by rw [hd]; exact dec_len h0 h1
      have hpos : 0 < l.length := by rw [hd, Lib.decDigits_length]; exact Lib.nDigits_pos _
      have hcv := conv_bytes ho2.out
      have HDD := hide hd
      have hbl : (l.length == 0) = false := by rw [beq_eq_false_iff_ne]; omega
      have hsz2 : (⟨l.toArray⟩ : ByteArray).size = l.length := by simp [ByteArray.size]
      have z1 : ((l.length : Int) == 0) = false := by rw [beq_eq_false_iff_ne]; omega
      have z2 : l ≠ [] := by intro e; subst e; simp at hpos
      clear hd
      by_cases hneg : n < 0
      · have E : Hid (⟨#[45]⟩ ++ ⟨l.toArray⟩ = s) := hide (by rw [← HS.out, HDD.out]; unfold str Lib.itoa; rw [if_pos hneg]; rfl)
        obtain ⟨sv, hsv⟩ : ∃ sv, (⟨l.toArray⟩ : ByteArray) = sv := ⟨_, rfl⟩
        rw [hsv] at hcv hsz2 E
        clear hsv HDD HS
        go_wp2_with fail
        go_ret
        exact ⟨retstr E.out, hbr⟩
      · have E : Hid (⟨l.toArray⟩ = s) := hide (by rw [← HS.out, HDD.out]; unfold str Lib.itoa; rw [if_neg hneg, show n.natAbs = n.toNat by omega])
        obtain ⟨sv, hsv⟩ : ∃ sv, (⟨l.toArray⟩ : ByteArray) = sv := ⟨_, rfl⟩
        rw [hsv] at hcv hsz2 E
        clear hsv HDD HS
        go_wp2_with fail
        go_ret
        exact ⟨retstr E.out, hbr⟩
    · skip
      have a1 := tdiv_abs k
      have a2 := tmod_abs k
      have a3 : k.tmod 10 + 10 * k.tdiv 10 = k := by have := Int.tmod_add_tdiv_mul k 10; omega
      have a4 := dleft_next (u := k.natAbs) (by omega) l
      have HN := hide (fun h => a4.trans (HD.out h))
      have HCL : Hid (∀ v : Obj, ∀ j u, (u8s l)[j]? = some u → (wr.alloc v).cell? ((⟨g, 0, none⟩ : Addr).add j) = some u) := hide (fun o j u hj => by rw [Go.WideShapes.add_plain, Nat.zero_add]; have hjl : j < l.length := (by have := (List.getElem?_eq_some_iff.1 hj).1; rwa [u8s_len] at this); exact ((ho.alloc o).cellAt j (by omega)).trans hj)
      have HZN : Hid (n = 0 → k = 0) := HZ2
      have hn0 : n ≠ 0 := fun e => hk (HZ2.out e)
      have hl21 : l.length ≤ 21 := by have e1 := dleft_len k.natAbs l; rw [HD.out hn0] at e1; exact Nat.le_trans e1 (dec_len h0 h1)
      have HG := hide (ho.lt g rfl)
      clear a4 HD ho HZ HZ2
      by_cases hneg : k < 0
      · skip
        have hs1 : 0 ≤ -(k.tmod 10) ∧ -(k.tmod 10) ≤ 9 := by omega
        obtain ⟨q, hq⟩ : ∃ q, k.tdiv 10 = q := ⟨_, rfl⟩
        obtain ⟨m, hm⟩ : ∃ m, k.tmod 10 = m := ⟨_, rfl⟩
        rw [hq] at a1 a3
        rw [hm] at a2 a3 hs1
        obtain ⟨p, hp⟩ : ∃ p : Nat, -m = (p : Int) := ⟨m.natAbs, by omega⟩
        obtain rfl : m = -(p : Int) := by omega
        have hp9 : p ≤ 9 := by omega
        have hpu : k.natAbs % 10 = p := by omega
        rw [hpu] at HN
        have HC := hide (u8cell p hp9)
        clear hp
        have hqz : q.natAbs < k.natAbs := by omega
        have HQ := hide a1
        clear a1 a2 a3 hpu
        rcases Nat.eq_zero_or_pos p with hp0 | hpp
        · subst hp0
          have hm : k.tmod 10 = 0 := by simpa using hm
          go_wp2_with (at_builtin; refine wpList_append_own _ rfl (.tmp 21) (.tmp 22) 63 rfl w.heap.size 5 i0 (.int .u8 0) 1 1 Tryd.underlying63 I.out.1 I.out.2.1 I.out.2.2.1 I.out.2.2.2 rfl (by decide) _ _ _ rfl (own_lit1 (by omega)) ⟨g, 0, none⟩ l.length cap (u8s l) rfl (by rw [u8s_len, Nat.mul_one]) (HCL.out _) (u8s_one l) (by unfold maxLen; omega) (by omega) (by simp; omega) ?_; intro v' wn hown' hgrow _; obtain ⟨g2, cap2, hv2⟩ := Joins.ownsRow_form hown' (by omega); subst hv2)
          go_roundw
          case rel =>
            have hlt2 := hgrow.size
            refine ⟨q, UInt8.ofNat (48 + 0) :: l, g2, cap2, rfl, ?_, ?_, by omega, by omega, by omega, hide (fun h => by rw [HQ.out]; exact HN.out h), hide (fun h => absurd h hn0), hide (fun h => absurd h hn0), by rw [List.length_cons]; omega, (hbr.alloc hsz _).grown hgrow (by simp; omega) (fun g' hg' => by have e : wr.heap.size = g' := Option.some.inj hg'; omega)⟩
            · rw [List.length_cons, Nat.add_comm]
            · have e1 : u8s (UInt8.ofNat (48 + 0) :: l) = [.int .u8 48] ++ u8s l := rfl
              rw [e1, List.length_cons, Nat.add_comm l.length 1]
              exact hown'
          case measure => simp [intOf]; omega
        · skip
          go_wp2_with (at_builtin; refine wpList_append_own _ rfl (.tmp 21) (.tmp 22) 63 rfl w.heap.size 5 i0 (.int .u8 0) 1 1 Tryd.underlying63 I.out.1 I.out.2.1 I.out.2.2.1 I.out.2.2.2 rfl (by decide) _ _ _ rfl (own_lit1 (by omega)) ⟨g, 0, none⟩ l.length cap (u8s l) rfl (by rw [u8s_len, Nat.mul_one]) (HCL.out _) (u8s_one l) (by unfold maxLen; omega) (by omega) (by simp; omega) ?_; intro v' wn hown' hgrow _; obtain ⟨g2, cap2, hv2⟩ := Joins.ownsRow_form hown' (by omega); subst hv2)
          go_roundw
          case rel =>
            have hlt2 := hgrow.size
            refine ⟨q, UInt8.ofNat (48 + p) :: l, g2, cap2, rfl, ?_, ?_, by omega, by omega, by omega, hide (fun h => by rw [HQ.out]; exact HN.out h), hide (fun h => absurd h hn0), hide (fun h => absurd h hn0), by rw [List.length_cons]; omega, (hbr.alloc hsz _).grown hgrow (by simp; omega) (fun g' hg' => by have e : wr.heap.size = g' := Option.some.inj hg'; omega)⟩
            · rw [List.length_cons, Nat.add_comm]
            · have e1 : u8s (UInt8.ofNat (48 + p) :: l) = [.int .u8 (48 + (p : Int))] ++ u8s l := by rw [HC.out]; rfl
              rw [e1, List.length_cons, Nat.add_comm l.length 1]
              exact hown'
          case measure => simp [intOf]; omega
      · skip
        have hs1 : 0 ≤ k.tmod 10 ∧ k.tmod 10 ≤ 9 := by omega
        obtain ⟨q, hq⟩ : ∃ q, k.tdiv 10 = q := ⟨_, rfl⟩
        obtain ⟨m, hm⟩ : ∃ m, k.tmod 10 = m := ⟨_, rfl⟩
        rw [hq] at a1 a3
        rw [hm] at a2 a3 hs1
        obtain ⟨p, hp⟩ : ∃ p : Nat, m = (p : Int) := ⟨m.natAbs, by omega⟩
        obtain rfl : m = (p : Int) := by omega
        have hp9 : p ≤ 9 := by omega
        have hpu : k.natAbs % 10 = p := by omega
        rw [hpu] at HN
        have HC := hide (u8cell p hp9)
        clear hp
        have hq2 : k / 10 = q := by omega
        have hm2 : k % 10 = (p : Int) := by omega
        have hqz : q.natAbs < k.natAbs := by omega
        have HQ := hide a1
        clear a1 a2 a3 hpu
        go_wp2_with (at_builtin; refine wpList_append_own _ rfl (.tmp 21) (.tmp 22) 63 rfl w.heap.size 5 i0 (.int .u8 0) 1 1 Tryd.underlying63 I.out.1 I.out.2.1 I.out.2.2.1 I.out.2.2.2 rfl (by decide) _ _ _ rfl (own_lit1 (by omega)) ⟨g, 0, none⟩ l.length cap (u8s l) rfl (by rw [u8s_len, Nat.mul_one]) (HCL.out _) (u8s_one l) (by unfold maxLen; omega) (by omega) (by simp; omega) ?_; intro v' wn hown' hgrow _; obtain ⟨g2, cap2, hv2⟩ := Joins.ownsRow_form hown' (by omega); subst hv2)
        go_roundw
        case rel =>
          have hlt2 := hgrow.size
          refine ⟨q, UInt8.ofNat (48 + p) :: l, g2, cap2, rfl, ?_, ?_, by omega, by omega, by omega, hide (fun h => by rw [HQ.out]; exact HN.out h), hide (fun h => absurd h hn0), hide (fun h => absurd h hn0), by rw [List.length_cons]; omega, (hbr.alloc hsz _).grown hgrow (by simp; omega) (fun g' hg' => by have e : wr.heap.size = g' := Option.some.inj hg'; omega)⟩
          · rw [List.length_cons, Nat.add_comm]
          · have e1 : u8s (UInt8.ofNat (48 + p) :: l) = [.int .u8 (48 + (p : Int))] ++ u8s l := by rw [HC.out]; rfl
            rw [e1, List.length_cons, Nat.add_comm l.length 1]
            exact hown'
        case measure => simp [intOf]; omega

end Go.Proofs.YtclfhegjfjcjeaaDoor
