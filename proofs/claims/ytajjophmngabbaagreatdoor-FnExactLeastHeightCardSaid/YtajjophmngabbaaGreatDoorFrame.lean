/-
  THE FRAME OF A LAW's ROW, over any program: from 'the call returns true and leaves what was there as it was' to the row's own words. No condition.
-/
import Derived.Test.YtajjophmngabbaaGreatDoorRows
import Derived.ProofKit
import Derived.Below
import Derived.Carry
import Derived.OpenShut
namespace Go.Proofs.YtajjophmngabbaaGreatDoor
open Go.ChangeShapes Go.WideShapes Go.ChangeAt Go.RowKit

theorem own : ownKnob Tryz.prog.godebug = none := by kernel_rfl
theorem laidOut : laidOutB Tryz.prog = true := by kernel_rfl

theorem list2 {l : List Int} (h : l.length = 2) : ∃ a0 a1, l = [a0, a1] := by
  match l, h with
  | [a0, a1], _ => exact ⟨_, _, rfl⟩
theorem list3 {l : List Int} (h : l.length = 3) : ∃ a0 a1 a2, l = [a0, a1, a2] := by
  match l, h with
  | [a0, a1, a2], _ => exact ⟨_, _, _, rfl⟩
theorem list4 {l : List Int} (h : l.length = 4) : ∃ a0 a1 a2 a3, l = [a0, a1, a2, a3] := by
  match l, h with
  | [a0, a1, a2, a3], _ => exact ⟨_, _, _, _, rfl⟩
theorem list5 {l : List Int} (h : l.length = 5) : ∃ a0 a1 a2 a3 a4, l = [a0, a1, a2, a3, a4] := by
  match l, h with
  | [a0, a1, a2, a3, a4], _ => exact ⟨_, _, _, _, _, rfl⟩
theorem list6 {l : List Int} (h : l.length = 6) : ∃ a0 a1 a2 a3 a4 a5, l = [a0, a1, a2, a3, a4, a5] := by
  match l, h with
  | [a0, a1, a2, a3, a4, a5], _ => exact ⟨_, _, _, _, _, _, rfl⟩
theorem list7 {l : List Int} (h : l.length = 7) : ∃ a0 a1 a2 a3 a4 a5 a6, l = [a0, a1, a2, a3, a4, a5, a6] := by
  match l, h with
  | [a0, a1, a2, a3, a4, a5, a6], _ => exact ⟨_, _, _, _, _, _, _, rfl⟩

theorem hide {p : Prop} (h : p) : Hid p := h

/-- The cells of a literal slice of numbers that has just been laid. -/
theorem lit_cells (w : World) (xs : List Int) (T : TypeId) (k : IntKind) : ∀ j, j < xs.length → (w.alloc (.cells (xs.map (Value.int k)).toArray T)).cell? ⟨w.heap.size, j, none⟩ = some (.int k (xs.getD j 0)) := by
  intro j hj
  rw [cell_of_row _ w.heap.size j _ T (0, 0) (heap_alloc_new w _)]
  simp [List.getD, hj]

theorem bcell {W w1 : World} (hb : Below W.heap.size W w1) : (∀ b o, b < W.heap.size → w1.cell? ⟨b, o, none⟩ = W.cell? ⟨b, o, none⟩) ∧ (∀ b o, b < W.heap.size → w1.frozen? ⟨b, o, none⟩ = W.frozen? ⟨b, o, none⟩) :=
  ⟨fun b o h => hb.cell (p := ⟨b, o, none⟩) h, fun b o h => hb.frozen (p := ⟨b, o, none⟩) h⟩

/-- The end of a walk that has laid new blocks, drawn, and stored into the new blocks alone. -/
theorem below_done (w : World) : Below w.heap.size w w := Below.refl _ _

section
variable {H : Type} {enc : TypeId × Value → H} {P : Program}
theorem trodAll_stays (hl : laidOutB P = true) {W W' : World} {sp' : Nat → Bool} : ∀ {ts : List TypeId} {vs : List Value} {ds : List (DataW H)} {ps : List MemPlace},
    (∀ t ∈ ts, P.readableRec t = true ∧ t < P.types.size) → DataW.TrodAll enc P W 0 (fun _ => true) true ts vs ds ps → (∀ p ∈ ps, W.sameAt W' p) → (∀ p ∈ ps, sp' p.block = true) →
    DataW.TrodAll enc P W' 0 sp' true ts vs ds ps
  | [], _, _, _, _, h, _, _ => by
    obtain ⟨rfl, rfl, rfl⟩ := trodAll_nil h
    exact trodAll_mk0
  | t :: ts, _, _, _, hr, h, hs, hq => by
    obtain ⟨v, vs1, d, ds1, a, c, rfl, rfl, rfl, h1, h2⟩ := trodAll_cons h
    exact trodAll_cons_mk (WideElems.Trod_stays hl (hr t (by simp)).1 (hr t (by simp)).2 h1 (fun p hp => hs p (by simp [hp])) (fun p hp => hq p (by simp [hp])))
      (trodAll_stays hl (fun t ht => hr t (by simp [ht])) h2 (fun p hp => hs p (by simp [hp])) (fun p hp => hq p (by simp [hp])))

theorem law_post {f : Func} {s : ChangeSpec} {W W' : World} {args : Array Value} {ds gs : List (DataW H)} {before : List MemPlace} {tb : TypeId}
    (hl : laidOutB P = true) (hb : P.underlying tb = some .bool) (hvars : s.vars = []) (hrt : f.resultTypes = #[tb])
    (hr : (f.params.toList.all fun t => P.readableRec t && decide (t < P.types.size)) = true)
    (hW : DataW.Whole enc P f.params.toList s.vars false W args.toList ds gs before)
    (hres : (s.fn H (ds ++ gs)).results = [.lit (.bool true)]) (hargs : (s.fn H (ds ++ gs)).args = ds) (hv : (s.fn H (ds ++ gs)).vars = [])
    (hB : Below W.heap.size W W') : s.post enc P f false true false false W args (.bool true) W' := by
  have hlt : ∀ p ∈ before, p.block < W.heap.size := fun p hp => hW.lt p hp
  have hW0 := hW
  obtain ⟨p, q, hA, hV, rfl, hfz, hnd⟩ := hW
  rw [hvars] at hV
  obtain ⟨rfl, rfl⟩ := trodVars_none hV
  have hr' : ∀ t ∈ f.params.toList, P.readableRec t = true ∧ t < P.types.size := fun t ht => by
    have := List.all_eq_true.1 hr t ht
    simpa using this
  refine ⟨ds, [], p ++ [], [], p ++ [], [], hW0, ?_, ?_, ?_, World.keptBut_mono (fun p hp => ⟨hp, ?_⟩) (hB.frame (· ∈ p ++ [])), fun h => by cases h⟩
  · rw [hres, hrt]
    exact trodAll_mk1 (shut_bool hb true)
  · rw [hargs]
    exact trodAll_stays hl hr' (by simpa using hA) (fun x hx => hB.same (hlt x (by simpa using hx))) (fun x hx => by simpa using hlt x (by simpa using hx))
  · rw [hvars, hv]
    exact hV
  · exact Or.inr (Or.inl hp)

/-- A struct all of whose fields are integers of one kind, by value. -/
theorem open_ints_struct {w : World} {base : Nat} {spare : Nat → Bool} {held : Bool} {r : Reach} {b0 : Nat} {t : TypeId} {fs : Array Field} {k : IntKind} {v : Value} {d : DataW H} {p : List MemPlace} (hs : P.underlying t = some (.struct fs))
    (hall : (List.range fs.size).all (fun i => (fs[i]?).any fun f => f.offset == i && (match P.underlying f.type with | some (.int k') => decide (k' = k) | _ => false) && P.cellsOf f.type == 1) = true) (hC : P.cellsOf t = fs.size)
    (hv : Value.okWide P w r b0 t v) (h : DataW.Trod enc P w base spare held t v d p) :
    ∃ xs : List Int, xs.length = fs.size ∧ v = .agg (xs.map (Value.int k)).toArray ∧ ∀ x ∈ xs, (Lit.int k x).wf = true := by
  obtain ⟨cs, rfl, hsz⟩ := okWide_struct hs hv
  obtain ⟨l⟩ := cs
  obtain ⟨fuel, hf⟩ := h
  obtain ⟨xs, n, _, _, hlen, hxl, hg⟩ := DataW.trod_struct hs hf
  have hcl : l.length = fs.size := by simpa [hC] using hsz
  have hget : ∀ i (hi : i < l.length), ∃ m, l[i] = Value.int k m ∧ (Lit.int k m).wf = true := by
    intro i hi
    have h1 := List.all_eq_true.1 hall i (by simp; omega)
    rw [Option.any_eq_true] at h1
    obtain ⟨f, hf1, hf2⟩ := h1
    simp only [Bool.and_eq_true, beq_iff_eq] at hf2
    obtain ⟨⟨ho, hu0⟩, hc⟩ := hf2
    have hu : P.underlying f.type = some (.int k) := by
      split at hu0
      · rename_i k' hk
        rw [hk, of_decide_eq_true hu0]
      · cases hu0
    have h2 := hg i f hf1
    simp only [Value.cells] at h2
    rw [ho, hc] at h2
    have hone : (l.drop i).take 1 = [l[i]] := by rw [List.drop_eq_getElem_cons hi]; rfl
    rw [hone] at h2
    have hxi : xs[i]? = some (xs[i]'(by omega)) := List.getElem?_eq_getElem (by omega)
    obtain ⟨m, hm, _, hw⟩ := DataW.trod_int hu (h2.trans hxi)
    exact ⟨m, by simpa using hm, hw⟩
  clear hf hg hall hlen hxl hv hsz
  refine ⟨l.map (fun v => match v with | .int _ m => m | _ => 0), by simpa using hcl, ?_, ?_⟩
  · congr 1
    show l.toArray = _
    congr 1
    apply List.ext_getElem (by simp)
    intro i h1 h2
    obtain ⟨m, hm, _⟩ := hget i h1
    simp [hm]
  · intro x hx
    obtain ⟨v, hv, rfl⟩ := List.mem_map.1 hx
    obtain ⟨i, hi, rfl⟩ := List.mem_iff_getElem.1 hv
    obtain ⟨m, hm, hw⟩ := hget i hi
    simp [hm, hw]
end
end Go.Proofs.YtajjophmngabbaaGreatDoor
