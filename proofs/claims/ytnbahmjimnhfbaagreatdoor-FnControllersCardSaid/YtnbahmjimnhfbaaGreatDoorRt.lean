/-
  RunRounds: the contracts, with names for the values. No condition but those that each theorem names.
-/
import Derived.Test.YtnbahmjimnhfbaaGreatDoorRs
namespace Go.Proofs.YtnbahmjimnhfbaaGreatDoor
open Go.RowKit
set_option linter.unusedVariables false

theorem specRunRounds_as {p0 p1 p2 p3 p4 q0 q1 q2 q3 q4 bd cc : Int} (A : Option Addr) (n c lo hi : Nat) (T : List (List Bool)) (hm : n ≤ maxLen) (mg st a0 a1 a2 a3 a4 b0 b1 b2 b3 b4 : Int) (B' : Option Addr) (m cm lo' hi' : Nat) (L : List (Bool × Bool)) (hL : L.length = m) (hmm : m ≤ 1048576) (w : World) (hP : Hid (rsV T mg st (a0, a1, a2, a3, a4) (b0, b1, b2, b3, b4) L = (((p0, p1, p2, p3, p4), (q0, q1, q2, q3, q4)), bd, cc))) (hr : RdSS w lo hi A n (rrBool T)) (hhi : hi ≤ w.heap.size) (hx : Rd w lo' hi' 2 B' m (rRound L)) (hhx : hi' ≤ w.heap.size) :
    Calls Tryz.prog 7 #[.slice A n c, .agg #[.int .i64 mg, .int .i64 st], .agg #[.int .i64 a0, .int .i64 a1, .int .i64 a2, .int .i64 a3, .int .i64 a4], .agg #[.int .i64 b0, .int .i64 b1, .int .i64 b2, .int .i64 b3, .int .i64 b4], .slice B' m cm] w fun e w' => e = .returned (.tuple #[.agg #[.int .i64 p0, .int .i64 p1, .int .i64 p2, .int .i64 p3, .int .i64 p4], .agg #[.int .i64 q0, .int .i64 q1, .int .i64 q2, .int .i64 q3, .int .i64 q4], .int .i64 bd, .int .i64 cc]) ∧ Below w.heap.size w w' := by
  have h := specRunRounds_any A n c lo hi T hm mg st (a0, a1, a2, a3, a4) (b0, b1, b2, b3, b4) B' m cm lo' hi' L hL hmm w hr hhi hx hhx
  rw [hP.out] at h
  exact h
theorem implRunRounds_as {p0 p1 p2 p3 p4 q0 q1 q2 q3 q4 bd cc : Int} (A : Option Addr) (n c lo hi : Nat) (T : List (List Bool)) (hm : n ≤ maxLen) (mg st a0 a1 a2 a3 a4 b0 b1 b2 b3 b4 : Int) (B' : Option Addr) (m cm lo' hi' : Nat) (L : List (Bool × Bool)) (hL : L.length = m) (hmm : m ≤ 1048576) (w : World) (hP : Hid (rsV T mg st (a0, a1, a2, a3, a4) (b0, b1, b2, b3, b4) L = (((p0, p1, p2, p3, p4), (q0, q1, q2, q3, q4)), bd, cc))) (hr : RdSS w lo hi A n (rrBool T)) (hhi : hi ≤ w.heap.size) (hx : Rd w lo' hi' 2 B' m (rRound L)) (hhx : hi' ≤ w.heap.size) :
    Calls Tryz.prog 6 #[.slice A n c, .agg #[.int .i64 mg, .int .i64 st], .agg #[.int .i64 a0, .int .i64 a1, .int .i64 a2, .int .i64 a3, .int .i64 a4], .agg #[.int .i64 b0, .int .i64 b1, .int .i64 b2, .int .i64 b3, .int .i64 b4], .slice B' m cm] w fun e w' => e = .returned (.tuple #[.agg #[.int .i64 p0, .int .i64 p1, .int .i64 p2, .int .i64 p3, .int .i64 p4], .agg #[.int .i64 q0, .int .i64 q1, .int .i64 q2, .int .i64 q3, .int .i64 q4], .int .i64 bd, .int .i64 cc]) ∧ Below w.heap.size w w' := by
  have h := implRunRounds_any A n c lo hi T hm mg st (a0, a1, a2, a3, a4) (b0, b1, b2, b3, b4) B' m cm lo' hi' L hL hmm w hr hhi hx hhx
  rw [hP.out] at h
  exact h
end Go.Proofs.YtnbahmjimnhfbaaGreatDoor
