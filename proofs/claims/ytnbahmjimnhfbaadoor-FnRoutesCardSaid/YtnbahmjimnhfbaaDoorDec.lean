/-
  NUMBERS IN DECIMAL: the library's and the reference's text of a number. No condition but those that each theorem names.
-/
import Derived.Test.YtnbahmjimnhfbaaDoorShf
import Derived.Test.YtnbahmjimnhfbaaDoorBox
import Derived.Test.YtnbahmjimnhfbaaDoorNum
import Derived.Laws.BytesArg
import Derived.Lib.ItoaLen
import Derived.Lib.LazyBuf
import Derived.Lib.AppendIntMem
import Derived.Lib.LaidTab
import Derived.Deep.DeepCutAuto
namespace Go.Proofs.YtnbahmjimnhfbaaDoor
open Go.RowKit
set_option linter.unusedVariables false
set_option linter.unusedSimpArgs false

/-- The library's table of powers of ten stands as its text lays it. -/
def Tb (w : World) : Prop := Lib.TabIs Tryd.prog w "internal/strconv.uint64pow10" .u64 Lib.pow10Tab
theorem gPow : ∃ g, Tryd.prog.globalNamed "internal/strconv.uint64pow10" = some g := ⟨_, rfl⟩
theorem Tb.below {w w' : World} {B : Nat} (h : Tb w) (hb : Below B w w') (hB : w.heap.size ≤ B) : Tb w' := by
  obtain ⟨g, hg⟩ := gPow
  unfold Tb Lib.TabIs World.var? at h ⊢
  rw [hg] at h ⊢
  simp only [Option.bind_some] at h ⊢
  have hlt : g < w.heap.size := by
    rcases Nat.lt_or_ge g w.heap.size with h' | h'
    · exact h'
    · simp [Array.getElem?_eq_none h'] at h
  rw [hb.block g (by omega)]
  exact h
theorem Tb.drew {w : World} (h : Tb w) : Tb w.drew := h
theorem Tb.drewN {w : World} (h : Tb w) (n : Nat) : Tb (w.drewN n) := h
/-- The text of a number. -/
def str (n : Int) : ByteArray := ⟨(Lib.itoa n).toArray⟩
theorem str_size {n : Int} (h0 : -9223372036854775808 ≤ n) (h1 : n ≤ 9223372036854775807) : (str n).size ≤ 21 := by
  have := Lib.itoa_length_le n h0 h1
  simpa [str, ByteArray.size] using this
theorem fmt_is {n : Int} (h0 : -9223372036854775808 ≤ n) (h1 : n ≤ 9223372036854775807) {s : ByteArray} (hs : str n = s) {w : World} (ht : Tb w) :
    Calls Tryd.prog 44 #[.int .i64 n, .int .i64 10] w fun e w' => e = .returned (.string s) ∧ Below w.heap.size w w' := by
  subst hs
  exact (Tryd.strconv_FormatInt_10 n h0 h1 w ht).mono fun e w' ⟨he, k, os, hw⟩ => ⟨he, hw ▸ Lib.below_grow _ w (Nat.le_refl _) k os⟩
theorem dec_small {u : Nat} (h : u < 10) : Lib.decDigits u = [UInt8.ofNat (48 + u)] := Lib.decDigits_one h
theorem dec_big {u : Nat} (h : ¬ u < 10) : Lib.decDigits u = Lib.decDigits (u / 10) ++ [UInt8.ofNat (48 + u % 10)] := by rw [Lib.decDigits, dif_neg h]
/-- What the digits that are left and those that are written make together. -/
def dleft (u : Nat) (l : List UInt8) : List UInt8 := if u = 0 then l else Lib.decDigits u ++ l
theorem dleft_next {u : Nat} (h : u ≠ 0) (l : List UInt8) : dleft (u / 10) (UInt8.ofNat (48 + u % 10) :: l) = dleft u l := by
  unfold dleft
  rw [if_neg h]
  by_cases h2 : u < 10
  · rw [if_pos (by omega), dec_small h2, show u % 10 = u by omega]; rfl
  · rw [if_neg (by omega), dec_big h2, List.append_assoc]; rfl
theorem dleft_len (u : Nat) (l : List UInt8) : l.length ≤ (dleft u l).length := by
  unfold dleft
  split <;> simp
theorem dec_len {n : Int} (h0 : -9223372036854775808 ≤ n) (h1 : n ≤ 9223372036854775807) : (Lib.decDigits n.natAbs).length ≤ 21 := by
  have h := Lib.itoa_length_le n h0 h1
  unfold Lib.itoa at h
  split at h
  · simp at h; omega
  · rename_i hh
    rw [show n.natAbs = n.toNat by omega]; exact h
theorem u8cell (m : Nat) (h : m ≤ 9) : Value.int .u8 (48 + (m : Int)) = .int .u8 ((UInt8.ofNat (48 + m)).toNat : Int) := by
  match m, h with
  | 0, _ => rfl
  | 1, _ => rfl
  | 2, _ => rfl
  | 3, _ => rfl
  | 4, _ => rfl
  | 5, _ => rfl
  | 6, _ => rfl
  | 7, _ => rfl
  | 8, _ => rfl
  | 9, _ => rfl
theorem str_zero : str 0 = ⟨#[48]⟩ := by
  unfold str Lib.itoa
  rw [if_neg (by omega), show (0 : Int).toNat = 0 from rfl, dec_small (by omega)]
  rfl
def u8s (l : List UInt8) : List Value := l.map fun c => Value.int .u8 (c.toNat : Int)
theorem u8s_len (l : List UInt8) : (u8s l).length = l.length := by simp [u8s]
theorem u8s_one (l : List UInt8) : ∀ u ∈ u8s l, u.oneCell' = true := by
  intro u hu
  simp only [u8s, List.mem_map] at hu
  obtain ⟨c, _, rfl⟩ := hu
  rfl
theorem conv_bytes {w : World} {g cap : Nat} {l : List UInt8} {base : Nat} (h : w.ownsRow base 5 1 (.slice (some ⟨g, 0, none⟩) l.length cap) l.length (u8s l)) :
    (convert 22 9 (.slice (some ⟨g, 0, none⟩) l.length cap)).run Tryd.prog w = .ok (.string ⟨l.toArray⟩) w := by
  rw [← Lib.Lz.strOfNums_map]
  refine run_convert_bytes_arg w _ _ Tryd.underlying22 Tryd.underlying5 g 0 l.length cap (l.map fun b => (b.toNat : Int)) (by rw [List.length_map]) (fun i hi => ?_) _ Tryd.underlying9
  have hc := h.cellAt i (by rw [Nat.mul_one]; exact hi)
  rw [Nat.zero_add, hc, u8s]
  simp [List.getD, hi]
theorem own_lit1 {w : World} {T : TypeId} {v : Value} {base : Nat} (hb : base ≤ w.heap.size) : (w.alloc (.cells #[v] T)).ownsRow base T 1 (.slice (some ⟨w.heap.size, 0, none⟩) 1 1) 1 [v] :=
  ⟨rfl, .inr ⟨w.heap.size, 1, #[v], rfl, hb, heap_alloc_new w _, Nat.le_refl _, by unfold maxLen; omega, rfl, rfl⟩⟩
theorem infoU8 : (Tryd.prog.info? 5).map (fun i => (i.zero, i.size, i.bytes)) = some (some (.int .u8 0), 1, 1) := by kernel_rfl
theorem tdiv_abs (k : Int) : (k.tdiv 10).natAbs = k.natAbs / 10 := by rw [Int.natAbs_tdiv]; rfl
theorem tmod_abs (k : Int) : (k.tmod 10).natAbs = k.natAbs % 10 := by rw [Int.natAbs_tmod]; rfl
theorem retstr {s t : ByteArray} (h : s = t) : Ending.returned (.string s) = .returned (.string t) := by rw [h]

set_option maxRecDepth 100000 in
set_option maxHeartbeats 2000000 in
theorem decimal_is {n : Int} (h0 : -9223372036854775808 ≤ n) (h1 : n ≤ 9223372036854775807) {s : ByteArray} (hs : str n = s) {w : World} (ht : Tb w) :
    Calls Tryd.prog 27 #[.int .i64 n] w fun e w' => e = .returned (.string s) ∧ Below w.heap.size w w' := by
  have HS := hide hs
  have HT := hide ht
  clear hs ht
  go_enter Tryd.func27, Tryd.ntmps27
  go_wp2_with fail
  refine (fmt_is h0 h1 HS.out HT.out).mono ?_
  rintro e w1 ⟨rfl, hb⟩
  go_wp2_with fail
  go_ret
  exact ⟨rfl, hb⟩

end Go.Proofs.YtnbahmjimnhfbaaDoor
