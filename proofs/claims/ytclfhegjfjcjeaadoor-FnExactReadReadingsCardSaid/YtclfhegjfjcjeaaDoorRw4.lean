/-
  TWO WORDS READ AS NUMBERS, the program's. No condition but those that each theorem names.
-/
import Derived.Test.YtclfhegjfjcjeaaDoorRw3
namespace Go.Proofs.YtclfhegjfjcjeaaDoor
open Go.RowKit
set_option linter.unusedVariables false
set_option linter.unusedSimpArgs false

def PairM (x y : List UInt8) (a b : Int) (ok : Bool) : Prop := ∀ m m', numOk x m → numOk y m' → ok = true ∧ a = m ∧ b = m'
def OwnTwo (w' : World) (lo : Nat) (v : Value) (a b : Int) (ok : Bool) : Prop := ok = true → w'.ownsRow lo 2 1 v 2 [.int .i64 a, .int .i64 b]
theorem infoI64 : (Tryd.prog.info? 2).map (fun i => (i.zero, i.size, i.bytes)) = some (some (.int .i64 0), 1, 8) := by kernel_rfl

set_option maxRecDepth 100000 in
set_option maxHeartbeats 2000000 in
theorem readAll_any (x y : List UInt8) (hx : x.length ≤ 1048576) (hy : y.length ≤ 1048576) (p : Nat) (w : World) (hp : p < w.heap.size) (hB : Box w p [.string (bstr x), .string (bstr y)]) (ht : Tb w) (he : Er w) :
    Calls Tryd.prog 14 #[.slice (some ⟨p, 0, none⟩) 2 2] w fun e w' => ∃ (v : Value) (ok : Bool) (a b : Int), e = .returned (.tuple #[v, .bool ok]) ∧ Hid (OwnTwo w' w.heap.size v a b ok) ∧ Hid (PairM x y a b ok) ∧ Below w.heap.size w w' := by
  obtain ⟨i0, hi0, hz0, hz1, hz2⟩ := info_parts infoI64
  have I := hide (And.intro hi0 (And.intro hz0 (And.intro hz1 hz2)))
  clear hi0 hz0 hz1 hz2
  have c0 := hB 0 _ rfl
  have c1 := hB 1 _ rfl
  have HTB := hide ht
  have HER := hide he
  clear ht he hB
  go_enter Tryd.func14, Tryd.ntmps14
  go_wp2_with fail
  go_loopw [4, 6, 7, 8, 11] (fun o _ _ _ i wr => Hid (Below w.heap.size w wr) ∧ ((i = .int .i64 0 ∧ o = .slice none 0 0) ∨ (i = .int .i64 1 ∧ ∃ a, Hid (RdM x a true) ∧ Hid (wr.ownsRow w.heap.size 2 1 o 1 [.int .i64 a])) ∨ (i = .int .i64 2 ∧ ∃ a b, Hid (RdM x a true) ∧ Hid (RdM y b true) ∧ Hid (wr.ownsRow w.heap.size 2 1 o 2 [.int .i64 a, .int .i64 b])))) (fun _ _ _ _ i _ => 2 - (intOf i).toNat)
  case atStart => exact ⟨hide (Below.refl _ _), .inl ⟨by first | rfl | go_num, rfl⟩⟩
  case round =>
    obtain ⟨HBR, hcase⟩ := hrel
    have hszr := HBR.out.size
    rcases hcase with ⟨rfl, rfl⟩ | ⟨rfl, a, HRA, HO⟩ | ⟨rfl, a, b, HRA, HRB, HO⟩
    · have cx := (HBR.out.cell (p := ⟨p, 0, none⟩) hp).trans c0
      clear c0 c1
      go_wp2_with fail
      refine (readDecimal_any x hx _ (HTB.out.below HBR.out (Nat.le_refl _)) (HER.out.below HBR.out (Nat.le_refl _))).mono ?_
      rintro e w2 ⟨a, ok, rfl, hr, hb⟩
      have hs2 := hb.size
      have HB2 := hide (HBR.out.trans (hb.mono hszr))
      clear hb cx HBR
      cases ok
      · have HNO : Hid (PairM x y 0 0 false) := hide (fun m m' h h' => by have := (hr.out _ h).1; cases this)
        clear hr
        go_wp2_with fail
        go_ret2
        exact ⟨_, false, 0, 0, rfl, hide (fun h => by cases h), HNO, HB2.out⟩
      · go_wp2_with (at_builtin; refine wpList_append_own _ rfl (.tmp 22) (.tmp 24) 38 rfl w.heap.size 2 i0 (.int .i64 0) 1 8 Tryd.underlying38 I.out.1 I.out.2.1 I.out.2.2.1 I.out.2.2.2 rfl (by decide) (.slice none 0 0) 0 [] rfl (World.ownsRow_nil _ _ _ _) ⟨w2.heap.size, 0, none⟩ 1 1 [.int .i64 a] rfl rfl (one_at8 _ _ _) (by simp [Value.oneCell']) (by unfold maxLen; omega) (by omega) (by simp; omega) ?_; intro v' wn hown' hgrow _)
        have HB9 := hide ((HB2.out.alloc (by omega) _).grown hgrow (by simp; omega) (fun g hg => by simp [Value.ownBlock] at hg))
        have HO9 := hide hown'
        clear hown' hgrow
        go_roundw
        case rel => exact ⟨HB9, .inr (.inl ⟨by first | rfl | go_num, a, hr, HO9⟩)⟩
        case measure => first | (simp [intOf]; done) | (simp [intOf]; omega)
    · have cx := (HBR.out.cell (p := ⟨p, 1, none⟩) hp).trans c1
      clear c0 c1
      go_wp2_with fail
      refine (readDecimal_any y hy _ (HTB.out.below HBR.out (Nat.le_refl _)) (HER.out.below HBR.out (Nat.le_refl _))).mono ?_
      rintro e w2 ⟨b, ok, rfl, hr, hb⟩
      have hs2 := hb.size
      have HB2 := hide (HBR.out.trans (hb.mono hszr))
      have HO2 := hide ((Own.of_owns HO.out).below hb (Nat.le_refl _)).1
      clear HO
      clear hb cx HBR
      cases ok
      · have HNO : Hid (PairM x y 0 0 false) := hide (fun m m' h h' => by have := (hr.out _ h').1; cases this)
        clear hr
        go_wp2_with fail
        go_ret2
        exact ⟨_, false, 0, 0, rfl, hide (fun h => by cases h), HNO, HB2.out⟩
      · go_wp2_with (at_builtin; refine wpList_append_own _ rfl (.tmp 22) (.tmp 24) 38 rfl w.heap.size 2 i0 (.int .i64 0) 1 8 Tryd.underlying38 I.out.1 I.out.2.1 I.out.2.2.1 I.out.2.2.2 rfl (by decide) u4 1 [.int .i64 a] rfl (HO2.out.alloc _) ⟨w2.heap.size, 0, none⟩ 1 1 [.int .i64 b] rfl rfl (one_at8 _ _ _) (by simp [Value.oneCell']) (by unfold maxLen; omega) (by omega) (by simp; omega) ?_; intro v' wn hown' hgrow _)
        have HB9 := hide ((HB2.out.alloc (by omega) _).grown hgrow (by simp; omega) (fun g hg => (HO2.out.lt g hg).1))
        have HO9 := hide hown'
        clear hown' hgrow
        go_roundw
        case rel => exact ⟨HB9, .inr (.inr ⟨by first | rfl | go_num, a, b, HRA, hr, HO9⟩)⟩
        case measure => first | (simp [intOf]; done) | (simp [intOf]; omega)
    · have HM : Hid (PairM x y a b true) := hide (fun m m' h h' => ⟨rfl, (HRA.out _ h).2, (HRB.out _ h').2⟩)
      go_wp2_with fail
      go_ret2
      exact ⟨_, true, a, b, rfl, hide (fun _ => HO.out), HM, HBR.out⟩

end Go.Proofs.YtclfhegjfjcjeaaDoor
