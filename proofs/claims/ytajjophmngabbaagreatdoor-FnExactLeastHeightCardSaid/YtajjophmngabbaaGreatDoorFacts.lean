/-
  THE SEAT's OWN FACTS, each once: what a row's builder asks of the program alone. No condition.
-/
import Derived.Test.YtajjophmngabbaaGreatDoorFrame
import Derived.JoinedOf
import Derived.KernelRfl
namespace Go.Proofs.YtajjophmngabbaaGreatDoor
open Go

def splitOk : Nat → List Char → Bool
  | 0, c :: _ => c == Char.ofNat 32
  | n + 1, c :: l => !(c == Char.ofNat 32) && splitOk n l
  | _, [] => false

theorem words_split : ∀ (n : Nat) (l : List Char), splitOk n l = true → wordsSigns l = l.take n :: wordsSigns (l.drop (n + 1)) := by
  intro n
  induction n with
  | zero =>
    intro l h
    cases l with
    | nil => simp [splitOk] at h
    | cons c t =>
      simp only [splitOk, beq_iff_eq] at h
      subst h
      rfl
  | succ n ih =>
    intro l h
    cases l with
    | nil => simp [splitOk] at h
    | cons c t =>
      simp only [splitOk, Bool.and_eq_true, Bool.not_eq_true', beq_eq_false_iff_ne, ne_eq] at h
      have e := ih t h.2
      have hc : c ≠ Char.ofNat 32 := h.1
      rw [wordsSigns]
      · rw [e]
        rfl
      · intro hh
        exact hc hh

def headOk (l : List Char) : Bool :=
  splitOk 7 l && (l.take 7 == "harness".toList) && splitOk 64 (l.drop 8) && isSumSigns ((l.drop 8).take 64) && splitOk 3 ((l.drop 8).drop 65) && (((l.drop 8).drop 65).take 3 == "cut".toList)

theorem head_cut {l : List Char} (h : headOk l = true) : ∃ X, behindMainWord (wordsSigns l) = "cut".toList :: X := by
  simp only [headOk, Bool.and_eq_true, beq_iff_eq] at h
  obtain ⟨⟨⟨⟨⟨h1, h2⟩, h3⟩, h4⟩, h5⟩, h6⟩ := h
  refine ⟨wordsSigns (((l.drop 8).drop 65).drop 4), ?_⟩
  rw [words_split 7 l h1, words_split 64 _ h3, words_split 3 _ h5, h2, h6]
  show (if ("harness".toList == "harness".toList || "harness".toList == "ownmain".toList) && isSumSigns ((l.drop 8).take 64) then _ else _) = _
  rw [h4]
  simp

set_option maxRecDepth 100000 in
theorem order_list : ∃ l : List Char, Tryz.prog.initOrder = String.ofList l ∧ headOk l = true := ⟨_, rfl, by kernel_rfl⟩

theorem order_head : ∃ X, behindMainWord (wordsSigns Tryz.prog.initOrder.toList) = "cut".toList :: X := by
  obtain ⟨l, e, h⟩ := order_list
  rw [e, String.toList_ofList]
  exact head_cut h

theorem make_of {P : Program} {X : List (List Char)} (h : behindMainWord (wordsSigns P.initOrder.toList) = "cut".toList :: X) : P.make = some .cut := by
  unfold Program.make
  rw [h]
  rfl
theorem lifts_at (X : List (List Char)) : stripLifts liftWords ("cut".toList :: X) = ([], "cut".toList :: X) := by kernel_rfl
theorem lifts_of {P : Program} {X : List (List Char)} (h : behindMainWord (wordsSigns P.initOrder.toList) = "cut".toList :: X) : P.headLifts = [] := by
  unfold Program.headLifts
  rw [h, lifts_at X]
  rfl
theorem final_of {P : Program} {X : List (List Char)} (h : behindMainWord (wordsSigns P.initOrder.toList) = "cut".toList :: X) : P.liftsFinal = false := by
  unfold Program.liftsFinal
  rw [h, lifts_of h]
  rfl
theorem enter_of {P : Program} {X : List (List Char)} (h : behindMainWord (wordsSigns P.initOrder.toList) = "cut".toList :: X)
    (h1 : P.laysLater = false) (h2 : P.bearsReflect = false) (h3 : P.doorFits [] = true) : P.mayEnter = true := by
  unfold Program.mayEnter
  rw [h]
  show (_ || _) = true
  rw [lifts_at X, h1, h2, h3]
  rfl

theorem make_eq : Tryz.prog.make = some .cut := by
  obtain ⟨X, h⟩ := order_head
  exact make_of h
theorem final_eq : Tryz.prog.liftsFinal = false := by
  obtain ⟨X, h⟩ := order_head
  exact final_of h
theorem later_eq : Tryz.prog.laysLater = false := by kernel_rfl
theorem bears_eq : Tryz.prog.bearsReflect = false := by kernel_rfl
theorem door_eq : Tryz.prog.doorFits [] = true := by kernel_rfl
theorem enter_eq : Tryz.prog.mayEnter = true := by
  obtain ⟨X, h⟩ := order_head
  exact enter_of h later_eq bears_eq door_eq

theorem fa_laid : laidOutB Tryz.prog = true := by kernel_rfl
theorem fa_rowed : mapsRowed Tryz.prog = true := by kernel_rfl
theorem fa_stops : (Tryz.prog.stops == []) = true := by kernel_rfl
theorem fa_knobs : (Tryz.prog.stopKnobs == []) = true := by kernel_rfl
theorem fa_plain : Tryz.prog.plainKeys = true := by kernel_rfl
theorem fa_heard : Tryz.prog.stopsHeard = true := by kernel_rfl

/-- What a row's builder asks that goes by the row, the function or the specification. -/
def rowFacts (P : Program) (f : FuncId) (fn : Func) (s : ChangeSpec) (c : OpenClaim) : Bool :=
  c.wf (OpenSpec.ofChange s) && fn.params.all (P.readableRec ·) && namedTie P c.named s.vars &&
  (c.stops == []) && (c.knobs == []) &&
  (c.inPlace == P.inPlace f) && (c.unfollowed == P.unfollowed f) && (c.recurses == P.recurses f) && (c.named == P.varsNamed f) &&
  (c.maps == (fn.params.toList ++ s.plain.varTypes P).any (P.mapsRec ·)) && (c.ifaces == (fn.params.toList ++ s.plain.varTypes P).any (P.ifacesRec ·)) && (c.mapsOut == P.mapsAmong fn.resultTypes.toList) &&
  (c.loops == (fn.params.toList ++ s.plain.varTypes P).any (P.loopsFrom ·)) && (c.wideKeys == (fn.params.toList ++ s.plain.varTypes P ++ fn.resultTypes.toList).any (P.wideKeysFrom ·)) &&
  s.vars.all (P.varReadable ·) && fn.resultTypes.all (fun t => P.readableRec t && decide (t < P.types.size)) && (c.ifacesOut == fn.resultTypes.toList.any (P.ifacesRec ·)) && (c.loopsOut == fn.resultTypes.toList.any (P.loopsFrom ·)) && c.shortTexts.isNone && c.domain.isEmpty && (c.kinds == []) && (c.pinned == c.pinnedBy) &&
  (c.veiled == (fn.params.toList ++ s.plain.varTypes P ++ fn.resultTypes.toList).any (P.veiledRec ·)) && c.veiledFits P fn.params.toList (fn.params.toList ++ s.plain.varTypes P ++ fn.resultTypes.toList)

theorem joined_of {P : Program} {f : FuncId} {fn : Func} {s : ChangeSpec} {c : OpenClaim}
    (h1 : laidOutB P = true) (h2 : mapsRowed P = true) (h3 : (P.stops == []) = true) (h4 : (P.stopKnobs == []) = true) (h5 : (c.plainKeys == P.plainKeys) = true)
    (h6 : P.stopsHeard = true) (h7 : P.mayEnter = true) (h8 : (c.lifted == P.liftsFinal) = true) (h9 : (P.make == some c.make) = true)
    (rest : rowFacts P f fn s c = true) : joinedFacts P f fn s c = true := by
  unfold joinedFacts
  unfold rowFacts at rest
  rw [Bool.and_eq_true, Bool.and_eq_true, Bool.and_eq_true, Bool.and_eq_true, Bool.and_eq_true, Bool.and_eq_true, Bool.and_eq_true, Bool.and_eq_true, Bool.and_eq_true, Bool.and_eq_true, Bool.and_eq_true, Bool.and_eq_true, Bool.and_eq_true, Bool.and_eq_true, Bool.and_eq_true, Bool.and_eq_true, Bool.and_eq_true, Bool.and_eq_true, Bool.and_eq_true, Bool.and_eq_true, Bool.and_eq_true, Bool.and_eq_true, Bool.and_eq_true] at rest
  obtain ⟨⟨⟨⟨⟨⟨⟨⟨⟨⟨⟨⟨⟨⟨⟨⟨⟨⟨⟨⟨⟨⟨⟨k0, k3⟩, k4⟩, k5⟩, k7⟩, k9⟩, k10⟩, k11⟩, k12⟩, k13⟩, k14⟩, k15⟩, k16⟩, k17⟩, k18⟩, k19⟩, k20⟩, k21⟩, k23⟩, k27⟩, k28⟩, k29⟩, k30⟩, k31⟩ := rest
  rw [k0, h1, h2, k3, k4, k5, h3, k7, h4, k9, k10, k11, k12, k13, k14, k15, k16, k17, k18, k19, k20, k21, h5, k23, h6, h7, h8, h9, if_pos k27, k28, k29, k30, k31]
  rfl

theorem joined {f : FuncId} {fn : Func} {s : ChangeSpec} {c : OpenClaim} (hp : c.plainKeys = true) (hl : c.lifted = false) (hm : c.make = .cut)
    (rest : rowFacts Tryz.prog f fn s c = true) : joinedFacts Tryz.prog f fn s c = true :=
  joined_of fa_laid fa_rowed fa_stops fa_knobs (by rw [hp, fa_plain]; rfl) fa_heard enter_eq (by rw [hl, final_eq]; rfl) (by rw [hm, make_eq]; rfl) rest

end Go.Proofs.YtajjophmngabbaaGreatDoor
