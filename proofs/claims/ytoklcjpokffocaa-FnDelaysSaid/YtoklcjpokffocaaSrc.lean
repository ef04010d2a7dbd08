/-
  THE SOURCE OF CHOICES of the drawing functions: a struct of three cells (bytes, a place, a seed). What is drawn is left open, but for its range. No condition but those that each theorem names.
-/
import Derived.Test.YtoklcjpokffocaaNum
namespace Go.Proofs.Ytoklcjpokffocaa
open Go.RowKit
set_option linter.unusedVariables false

/-- Block b is a source that has made at most K choices. -/
def Src (w : World) (b K : Nat) : Prop :=
  ∃ (A : Option Addr) (n c : Nat) (at_ sd : Int) (bs : List Value), w.heap[b]? = some (.cells #[.slice A n c, .int .i64 at_, .int .u64 sd] 67 (0, 0)) ∧ 0 ≤ at_ ∧ at_ ≤ K ∧ n ≤ maxLen ∧ Rd w 0 b 1 A n bs ∧ ∀ v ∈ bs, ∃ x : Int, v = .int .u8 x ∧ 0 ≤ x ∧ x ≤ 255
theorem Src.lt {w : World} {b K : Nat} (h : Src w b K) : b < w.heap.size := by
  obtain ⟨A, n, c, a, s, bs, h, _⟩ := h
  exact (Array.getElem?_eq_some_iff.1 h).1
theorem Src.mono {w : World} {b K K' : Nat} (h : Src w b K) (hk : K ≤ K') : Src w b K' := by
  obtain ⟨A, n, c, a, s, bs, h1, h2, h3, r⟩ := h
  exact ⟨A, n, c, a, s, bs, h1, h2, by omega, r⟩
theorem Src.keep {w w' : World} {b K : Nat} (h : Src w b K) (hk : ∀ g, g ≤ b → w'.heap[g]? = w.heap[g]?) : Src w' b K := by
  obtain ⟨A, n, c, a, s, bs, h1, h2, h3, h4, h5, h6⟩ := h
  exact ⟨A, n, c, a, s, bs, (hk b (Nat.le_refl _)).trans h1, h2, h3, h4, h5.keep fun p _ hp => World.cell?_of_block (hk p.block (by omega)), h6⟩
theorem Src.below {w w' : World} {b K B : Nat} (h : Src w b K) (hb : Below B w w') (hB : b < B) : Src w' b K := h.keep fun g hg => hb.block g (by omega)
theorem Src.tch {w w' : World} {b K lo hi : Nat} (h : Src w b K) (hb : Tch lo hi w w') (hB : b < lo) : Src w' b K := h.keep fun g hg => hb.block g (by have := h.lt; omega) (by omega)
theorem Src.alloc {w : World} {b K : Nat} (h : Src w b K) (o : Obj) : Src (w.alloc o) b K := h.below ((Below.refl _ _).alloc (Nat.le_refl _) _) h.lt
theorem Src.drew {w : World} {b K : Nat} (h : Src w b K) : Src w.drew b K := h
/-- A literal slice that has just been laid. -/
theorem rd_lit (w : World) (cs : Array Value) (T : TypeId) (n : Nat) (hn : cs.size = n) : Rd (w.alloc (.cells cs T)) w.heap.size (w.heap.size + 1) 1 (some ⟨w.heap.size, 0, none⟩) n cs.toList :=
  ⟨by simp [hn], fun _ => ⟨w.heap.size, 0, rfl, Nat.le_refl _, Nat.lt_succ_self _, fun j u hu => by rw [Nat.zero_add, new_cell]; simpa using hu⟩⟩
theorem and255 (x : Int) : 0 ≤ bits .and .u64 x 255 ∧ bits .and .u64 x 255 ≤ 255 := by
  have h : ∀ n : Nat, n ≤ 255 → 0 ≤ IntKind.u64.wrap n ∧ IntKind.u64.wrap n ≤ 255 := fun n hn => by
    simp only [IntKind.wrap, IntKind.bits, IntKind.signed]
    simp
    omega
  have h2 : (BitVec.ofInt 64 x &&& BitVec.ofInt 64 255).toNat ≤ 255 := by
    rw [BitVec.toNat_and]
    exact Nat.and_le_right
  exact h _ h2
theorem src_new (w : World) (A : Option Addr) (n c hi : Nat) (bs : List Value) (hn : n ≤ maxLen) (h : Rd w 0 hi 1 A n bs) (hhi : hi ≤ w.heap.size) (hv : ∀ v ∈ bs, ∃ x : Int, v = .int .u8 x ∧ 0 ≤ x ∧ x ≤ 255) :
    Src (w.alloc (.cells #[.slice A n c, .int .i64 0, .int .u64 0] 67)) w.heap.size 0 :=
  ⟨A, n, c, 0, 0, bs, heap_alloc_new w _, by omega, by omega, hn, (h.mono (Nat.le_refl _) hhi).alloc (Nat.le_refl _) _, hv⟩
theorem src_cells {w : World} {b : Nat} {x y z : Value} (h : w.heap[b]? = some (.cells #[x, y, z] 67 (0, 0))) :
    w.cell? ⟨b, 0, none⟩ = some x ∧ w.cell? ⟨b, 1, none⟩ = some y ∧ w.cell? ⟨b, 2, none⟩ = some z ∧ w.frozen? ⟨b, 1, none⟩ = false ∧ w.frozen? ⟨b, 2, none⟩ = false := by
  refine ⟨?_, ?_, ?_, ?_, ?_⟩
  · rw [cell_of_row w b 0 _ _ (0, 0) h]; rfl
  · rw [cell_of_row w b 1 _ _ (0, 0) h]; rfl
  · rw [cell_of_row w b 2 _ _ (0, 0) h]; rfl
  · simp [World.frozen?, h]
  · simp [World.frozen?, h]

set_option maxHeartbeats 400000 in
theorem l00From_any (A : Option Addr) (n c hi : Nat) (bs : List Value) (hn : n ≤ maxLen) (w : World) (h : Rd w 0 hi 1 A n bs) (hhi : hi ≤ w.heap.size) (hv : ∀ v ∈ bs, ∃ x : Int, v = .int .u8 x ∧ 0 ≤ x ∧ x ≤ 255) :
    Calls Try.prog 25 #[.slice A n c] w fun e w' => e = .returned (.pointer (some ⟨w.heap.size, 0, none⟩)) ∧ Src w' w.heap.size 0 ∧ Below w.heap.size w w' := by
  have hS := hide (src_new w A n c hi bs hn h hhi hv)
  clear h hv
  go_enter Try.func25, Try.ntmps25
  go_wp2
  go_ret
  exact ⟨rfl, by simpa using hS.out, (Below.refl _ _).alloc (Nat.le_refl _) _⟩

theorem src_store {w : World} {b : Nat} {x y z u v : Value} (h : w.heap[b]? = some (.cells #[x, y, z] 67 (0, 0))) :
    ((w.setCell ⟨b, 1, none⟩ u).setCell ⟨b, 2, none⟩ v).heap[b]? = some (.cells #[x, u, v] 67 (0, 0)) ∧ Tch b (b + 1) w ((w.setCell ⟨b, 1, none⟩ u).setCell ⟨b, 2, none⟩ v) := by
  have h1 := heap_setCell_same w b 1 _ _ u h
  have h2 := heap_setCell_same (w.setCell ⟨b, 1, none⟩ u) b 2 _ _ v h1
  exact ⟨h2, tch_set (tch_set (Tch.refl _ _ _) (Nat.le_refl _) (by omega) _ _) (Nat.le_refl _) (by omega) _ _⟩

theorem src_step {w : World} {b K n c k : Nat} {A : Option Addr} {sd u : Int} {bs : List Value} (hb : w.heap[b]? = some (.cells #[.slice A n c, .int .i64 k, .int .u64 sd] 67 (0, 0))) (hk : k ≤ K) (hn : n ≤ maxLen) (hr : Rd w 0 b 1 A n bs) (hv : ∀ v ∈ bs, ∃ x : Int, v = .int .u8 x ∧ 0 ≤ x ∧ x ≤ 255) :
    Src ((w.setCell ⟨b, 1, none⟩ (.int .i64 ((k : Int) + 1))).setCell ⟨b, 2, none⟩ (.int .u64 u)) b (K + 1) ∧ Tch b (b + 1) w ((w.setCell ⟨b, 1, none⟩ (.int .i64 ((k : Int) + 1))).setCell ⟨b, 2, none⟩ (.int .u64 u)) := by
  obtain ⟨h1, h2⟩ := src_store (u := .int .i64 ((k : Int) + 1)) (v := .int .u64 u) hb
  exact ⟨⟨A, n, c, _, u, bs, h1, by omega, by omega, hn, hr.tch h2 (by have := (Array.getElem?_eq_some_iff.1 hb).1; omega) (.inl (Nat.le_refl _)), hv⟩, h2⟩

def Drawn (b K : Nat) (lo hi : Int) (w : World) (e : Ending) (w' : World) : Prop :=
  ∃ x : Int, e = .returned (.int .i64 x) ∧ lo ≤ x ∧ x ≤ hi ∧ Src w' b K ∧ Tch b (b + 1) w w'
theorem drawn_end {w w' : World} {b K a d : Nat} {x y u z : Int} (hz : z = x) (h : Src ((w.setCell ⟨b, 1, none⟩ (.int .i64 y)).setCell ⟨b, 2, none⟩ (.int .u64 u)) b (K + 1) ∧ Tch b (b + 1) w ((w.setCell ⟨b, 1, none⟩ (.int .i64 y)).setCell ⟨b, 2, none⟩ (.int .u64 u)))
    (h0 : 0 ≤ z) (h1 : z ≤ 255) (hw : w' = (((w.drewN a).setCell ⟨b, 1, none⟩ (.int .i64 y)).setCell ⟨b, 2, none⟩ (.int .u64 u)).drewN d) : Drawn b (K + 1) 0 255 w (.returned (.int .i64 x)) w' := by
  subst hz; subst hw
  exact ⟨z, rfl, h0, h1, h.1, ⟨h.2.os, h.2.tape, h.2.output, h.2.size, h.2.block⟩⟩

theorem wb (x : Int) : bits .and .u64 x 255 = wrap64 (bits .and .u64 x 255) := by
  have h := and255 x
  exact (IntWalk.wrap64_in _ ⟨by omega, by omega⟩).symm

set_option maxRecDepth 100000 in
set_option maxHeartbeats 1000000 in
theorem next_any (b K : Nat) (hK : K ≤ 1000000) (w : World) (h : Src w b K) :
    Calls Try.prog 52 #[.pointer (some ⟨b, 0, none⟩)] w (Drawn b (K + 1) 0 255 w) := by
  obtain ⟨A, n, c, at_, sd, bs, hb, h0, h1, hn, hr, hv⟩ := h
  obtain ⟨k, rfl⟩ : ∃ k : Nat, at_ = k := ⟨at_.toNat, by omega⟩
  unfold maxLen at hn
  obtain ⟨c0, c1, c2, f1, f2⟩ := src_cells hb
  have HS := fun u => hide (src_step (u := u) hb (K := K) (by omega) (by unfold maxLen; omega) hr hv)
  by_cases hlt : k < n
  · obtain ⟨g, off, v, rfl, _, hg, hv1, hc⟩ := hr.at_ hlt
    obtain ⟨x, rfl, x0, x1⟩ := hv v (List.mem_of_getElem? hv1)
    clear hv1 hr hv hb
    have hgb : g ≠ b := by omega
    go_enter Try.func52, Try.ntmps52
    go_wp2_with fail
    go_quiet (fail)
    go_wp2_with fail
    go_quiet (fail)
    go_wp2_with fail
    go_quiet (fail)
    go_wp2_with fail
    go_ret
    exact drawn_end rfl (HS _).out x0 x1 rfl
  · clear hr hv hb
    go_enter Try.func52, Try.ntmps52
    go_wp2_with fail
    go_quiet (fail)
    go_wp2_with fail
    go_quiet (fail)
    go_wp2_with fail
    go_ret
    exact drawn_end (wb _) (HS _).out (and255 _).1 (and255 _).2 rfl

set_option maxHeartbeats 1000000 in
theorem pick_any (b K : Nat) (n : Int) (hK : K ≤ 900000) (h1 : 1 ≤ n) (h2 : n ≤ 65536) (w : World) (h : Src w b K) :
    Calls Try.prog 28 #[.pointer (some ⟨b, 0, none⟩), .int .i64 n] w (Drawn b (K + 2) 0 (n - 1) w) := by
  have H := hide h
  clear h
  rcases (show n = 1 ∨ (2 ≤ n ∧ n ≤ 200) ∨ 201 ≤ n by omega) with h | h | h
  · subst h
    go_enter Try.func28, Try.ntmps28
    go_wp2_with fail
    go_ret
    exact ⟨0, rfl, by omega, by omega, H.out.mono (by omega), Tch.refl _ _ _⟩
  · obtain ⟨h3, h4⟩ := h
    go_enter Try.func28, Try.ntmps28
    go_wp2_with fail
    refine (next_any b K (by omega) _ H.out).mono ?_
    rintro e w1 ⟨x, rfl, x0, x1, hS, ht⟩
    have m1 : 0 ≤ x % n := Int.emod_nonneg _ (by omega)
    have m2 : x % n < n := Int.emod_lt_of_pos _ (by omega)
    go_wp2_with fail
    go_ret
    exact ⟨x % n, rfl, m1, by omega, hS.mono (by omega), ht⟩
  · go_enter Try.func28, Try.ntmps28
    go_wp2_with fail
    refine (next_any b K (by omega) _ H.out).mono ?_
    rintro e w1 ⟨x, rfl, x0, x1, hS, ht⟩
    go_wp2_with fail
    refine (next_any b (K + 1) (by omega) _ hS).mono ?_
    rintro e w2 ⟨y, rfl, y0, y1, hS2, ht2⟩
    have m1 : 0 ≤ (x * 256 + y) % n := Int.emod_nonneg _ (by omega)
    have m2 : (x * 256 + y) % n < n := Int.emod_lt_of_pos _ (by omega)
    go_wp2_with fail
    go_ret
    exact ⟨(x * 256 + y) % n, rfl, m1, by omega, hS2, ht.trans ht2⟩

set_option maxHeartbeats 400000 in
theorem one_any (b K : Nat) (n : Int) (hK : K ≤ 900000) (h1 : 1 ≤ n) (h2 : n ≤ 65536) (w : World) (h : Src w b K) :
    Calls Try.prog 42 #[.pointer (some ⟨b, 0, none⟩), .int .i64 n] w fun e w' => ∃ y : Bool, e = .returned (.bool y) ∧ Src w' b (K + 2) ∧ Tch b (b + 1) w w' := by
  have H := hide h
  clear h
  go_enter Try.func42, Try.ntmps42
  go_wp2_with fail
  refine (pick_any b K n hK h1 h2 _ H.out).mono ?_
  rintro e w1 ⟨x, rfl, x0, x1, hS, ht⟩
  go_wp2_with fail
  go_ret
  exact ⟨_, rfl, hS, ht⟩

set_option maxHeartbeats 400000 in
theorem among_any (b K : Nat) (A : Option Addr) (n c lo hi : Nat) (xs : List Int) (hK : K ≤ 900000) (h1 : 1 ≤ n) (h2 : n ≤ 65536) (w : World) (h : Src w b K) (hr : Rd w lo hi 1 A n (xs.map (Value.int .i64))) (hlo : b < lo) (hhi : hi ≤ w.heap.size) :
    Calls Try.prog 62 #[.pointer (some ⟨b, 0, none⟩), .slice A n c] w fun e w' => ∃ x : Int, e = .returned (.int .i64 x) ∧ x ∈ xs ∧ Src w' b (K + 2) ∧ Tch b (b + 1) w w' := by
  have H := hide h
  have HR := hide hr
  clear h hr
  go_enter Try.func62, Try.ntmps62
  go_wp2_with fail
  refine (pick_any b K n hK (by omega) (by omega) _ H.out).mono ?_
  rintro e w1 ⟨x, rfl, x0, x1, hS, ht⟩
  obtain ⟨k, rfl⟩ : ∃ k : Nat, x = k := ⟨x.toNat, by omega⟩
  have hr1 := HR.out.tch ht hhi (.inr (by omega))
  obtain ⟨g, off, u, rfl, _, _, hu, hc⟩ := hr1.at_ (k := k) (by omega)
  rw [List.getElem?_map] at hu
  obtain ⟨y, hy, rfl⟩ := Option.map_eq_some_iff.1 hu
  have HM := hide (List.mem_of_getElem? hy)
  clear hu hy hr1
  go_wp2_with fail
  go_ret
  exact ⟨y, rfl, HM.out, hS, ht⟩

end Go.Proofs.Ytoklcjpokffocaa
