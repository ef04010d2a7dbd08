/-
  THE FRAME OF A LAW's ROW that reads one package-level variable: from 'the call returns true and leaves what was there as it was' to the row's own words. No condition.
-/
import Derived.Test.YtajjophmngabbaaGreatDoorFrame
import Derived.ChangeVars
import Derived.ChangeOld
import Derived.ChangeSame
namespace Go.Proofs.YtajjophmngabbaaGreatDoor
open Go.ChangeShapes Go.WideShapes Go.ChangeAt Go.RowKit

section
variable {H : Type} {enc : TypeId × Value → H} {P : Program}
theorem var_stays {n : String} {W W' : World} {cs : Array Value} (h : W.var? P n = some cs) (hB : Below W.heap.size W W') : W'.var? P n = some cs := by
  unfold World.var? at h ⊢
  cases e : P.globalNamed n with
  | none => rw [e] at h; cases h
  | some g =>
    rw [e] at h
    simp only [Option.bind_some] at h ⊢
    have hlt : g < W.heap.size := by
      rcases Nat.lt_or_ge g W.heap.size with h' | h'
      · exact h'
      · rw [Array.getElem?_eq_none h'] at h; cases h
    rw [hB.block g hlt]
    exact h
theorem law_post_v {f : Func} {s : ChangeSpec} {W W' : World} {args : Array Value} {ds gs : List (DataW H)} {before : List MemPlace} {tb : TypeId} {n : String}
    (hl : laidOutB P = true) (hb : P.underlying tb = some .bool) (hvars : s.vars = [n]) (hrt : f.resultTypes = #[tb])
    (hr : (f.params.toList.all fun t => P.readableRec t && decide (t < P.types.size)) = true)
    (hq : (((P.globalNamed n).bind fun g => (P.globals[g]?).map (·.type)).all fun t => P.readableRec t && decide (t < P.types.size)) = true)
    (hW : DataW.Whole enc P f.params.toList s.vars false W args.toList ds gs before)
    (hres : (s.fn H (ds ++ gs)).results = [.lit (.bool true)]) (hargs : (s.fn H (ds ++ gs)).args = ds) (hv : (s.fn H (ds ++ gs)).vars = gs)
    (hB : Below W.heap.size W W') : s.post enc P f false true false false W args (.bool true) W' := by
  have hlt : ∀ p ∈ before, p.block < W.heap.size := fun p hp => hW.lt p hp
  have hW0 := hW
  obtain ⟨p, q, hA, hV, rfl, hfz, hnd⟩ := hW
  rw [hvars] at hV
  obtain ⟨g, t, cs, fuel, d, pq, rfl, hg, ht, hc, hd, rfl⟩ := trodVars_one hV
  rw [hg] at hq
  simp only [Option.bind_some] at hq
  rw [ht] at hq
  simp only [Option.all_some, Bool.and_eq_true, decide_eq_true_eq] at hq
  have hr' : ∀ t ∈ f.params.toList, P.readableRec t = true ∧ t < P.types.size := fun t ht => by
    have := List.all_eq_true.1 hr t ht
    simpa using this
  obtain ⟨fuel', hd'⟩ := WideElems.Trod_stays (sp' := fun b => decide (b < W.heap.size)) hl hq.1 hq.2 (v := .agg cs) ⟨fuel, hd⟩ (fun x hx => hB.same (hlt x (by simp [hx]))) (fun x hx => by simpa using hlt x (by simp [hx]))
  refine ⟨ds, [d], p ++ (MemPlace.row ⟨g, 0, none⟩ cs.size ++ pq), [], p, MemPlace.row ⟨g, 0, none⟩ cs.size ++ pq, hW0, ?_, ?_, ?_, World.keptBut_mono (fun x hp => ⟨hp, ?_⟩) (hB.frame (· ∈ p ++ (MemPlace.row ⟨g, 0, none⟩ cs.size ++ pq))), fun h => by cases h⟩
  · rw [hres, hrt]
    exact trodAll_mk1 (shut_bool hb true)
  · rw [hargs]
    exact trodAll_stays hl hr' hA (fun x hx => hB.same (hlt x (List.mem_append.2 (.inl hx)))) (fun x hx => by simpa using hlt x (List.mem_append.2 (.inl hx)))
  · rw [hvars, hv]
    exact trodVars_mk1 hg ht (var_stays hc hB) hd'
  · exact Or.inr (List.mem_append.1 hp)
end
end Go.Proofs.YtajjophmngabbaaGreatDoor
