/-
  THE STATES TO WHICH AN ALLOWED STEP LEADS: the reference's and the program's. No condition but those that each theorem names.
-/
import Derived.Test.YtoklcjpokffocaaStp
import Derived.Test.YtoklcjpokffocaaGrow
import Derived.Test.YtoklcjpokffocaaFamSInt64
namespace Go.Proofs.Ytoklcjpokffocaa
open Go.RowKit
set_option linter.unusedVariables false

theorem news_at2 (w : World) (v : Value) (T : TypeId) (b : Nat) (hb : b = w.heap.size) : ∀ (j : Nat) (u : Value), [v][j]? = some u → (w.alloc (.cells #[v] T)).cell? ((⟨b, 0, none⟩ : Addr).add j) = some u := by
  subst hb
  exact cell_one_new _ _ _
theorem rr_snoc (l : List (List Int)) (r : List Int) : rrInt64 (l ++ [r]) = rrInt64 l ++ [rInt64 r] := by simp [rrInt64]
theorem r_two (x y : Int) : rInt64 [x, y] = [.int .i64 x, .int .i64 y] := rfl
section
variable {w w' : World} {lo hi n : Nat} {rs : List (List Value)} {us : List Value} {E T : TypeId} {v : Value}
/-- A row that lies in a block of its own, newer than the others', is appended. -/
theorem ss_snoc3 {wr w1 : World} {v' u : Value} {r : List Value} {c0 : Array Value} {mid : Nat} (hne : T ≠ E) (ho : Own wr lo wr.heap.size T 1 v n us) (hro : Rows wr lo mid E us rs) (hnew : Own wr mid wr.heap.size E 1 u r.length r) (hlo : lo ≤ mid) (hmid : mid ≤ wr.heap.size)
    (hg : (wr.alloc (.cells c0 T)).grownBy w1 v.ownBlock) (ho1 : w1.ownsRow lo T 1 v' (n + 1) (us ++ [u])) :
    OwnSS w1 lo w1.heap.size T E v' (n + 1) (rs ++ [r]) := by
  have hsz := hg.size
  simp at hsz
  have hold : ∀ g, g < wr.heap.size → (wr.alloc (.cells c0 T)).heap[g]? = wr.heap[g]? := fun g hg => by
    have hb : Below wr.heap.size wr (wr.alloc (.cells c0 T)) := (Below.refl _ _).alloc (Nat.le_refl _) _
    exact hb.block g hg
  refine ⟨us ++ [u], Own.of_owns ho1, ?_⟩
  refine Rows.snoc (hi := mid) (lo' := mid) (hro.of_rows fun i u g hu hgu => ?_) ((hnew.of_block fun g hg' => ?_).mono (Nat.le_refl _) (by omega)) hlo (Nat.le_refl _) (by omega)
  · have hi : i < rs.length := by rw [← hro.len]; exact (List.getElem?_eq_some_iff.1 hu).1
    have hrow := hro.row i u rs[i] hu (List.getElem?_eq_getElem hi)
    have hlt := (hrow.lt g hgu).2.2
    have hnn := own_ne hrow.1 ho.1 (fun e => hne e.symm) g hgu
    exact (hg.block g (by simp; omega) (fun e => hnn e.symm)).trans (hold g hlt)
  · have hlt := (hnew.lt g hg').2.2
    have hnn := own_ne hnew.1 ho.1 (fun e => hne e.symm) g hg'
    exact (hg.block g (by simp; omega) (fun e => hnn e.symm)).trans (hold g hlt)
end
theorem own_lit2 (w : World) (x y : Int) (t : TypeId) : Own (w.alloc (.cells #[.int .i64 x, .int .i64 y] t)) w.heap.size (w.heap.size + 1) t 1 (.slice (some ⟨w.heap.size, 0, none⟩) 2 2) 2 (rInt64 [x, y]) :=
  own_of_block (r := rInt64 [x, y]) (heap_alloc_new w _) (Nat.le_refl _) (Nat.lt_succ_self _) (by simp [rInt64_length, maxLen])
theorem rd_lit2b (w : World) (x y : Int) (t : TypeId) : Rd (w.alloc (.cells #[.int .i64 x, .int .i64 y] t)) w.heap.size (w.heap.size + 1) 1 (some ⟨w.heap.size, 0, none⟩) 2 (rInt64 [x, y]) := by
  obtain ⟨A, c, e, _, _, h⟩ := (own_lit2 w x y t).rd
  injection e with e1 e2 e3
  subst e1
  exact h

end Go.Proofs.Ytoklcjpokffocaa
