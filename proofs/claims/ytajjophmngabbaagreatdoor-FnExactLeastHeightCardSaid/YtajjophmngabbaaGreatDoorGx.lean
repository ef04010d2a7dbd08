/-
  GEOMETRY IN PLAIN NUMBERS: cross products, squares of distances, whether segments meet, which fraction is less, ends of booms. No condition but those that each theorem names.
-/
import Derived.Test.YtajjophmngabbaaGreatDoorFrac
import Derived.Test.YtajjophmngabbaaGreatDoorFrl
import Derived.Test.YtajjophmngabbaaGreatDoorCrane
namespace Go.Proofs.YtajjophmngabbaaGreatDoor
open Go.RowKit
set_option linter.unusedVariables false

theorem mul_fit {u v : Int} (hu : -22000 ≤ u ∧ u ≤ 22000) (hv : -22000 ≤ v ∧ v ≤ 22000) : -484000000 ≤ u * v ∧ u * v ≤ 484000000 := by
  have h : (u * v).natAbs ≤ 22000 * 22000 := by rw [Int.natAbs_mul]; exact Nat.mul_le_mul (by omega) (by omega)
  omega
/-- A coordinate of a segment's end. -/
def Co (x : Int) : Prop := -11000 ≤ x ∧ x ≤ 11000
theorem Co.sub {x y : Int} (h : Co x) (h' : Co y) : -22000 ≤ x - y ∧ x - y ≤ 22000 := by unfold Co at h h'; omega
/-- A segment's four numbers, a point's two. -/
def CoS (ax ay bx cy : Int) : Prop := Co ax ∧ Co ay ∧ Co bx ∧ Co cy
def CoP (px py : Int) : Prop := Co px ∧ Co py
theorem CoS.a {ax ay bx cy : Int} (h : CoS ax ay bx cy) : CoP ax ay := ⟨h.1, h.2.1⟩
theorem CoS.b {ax ay bx cy : Int} (h : CoS ax ay bx cy) : CoP bx cy := ⟨h.2.2.1, h.2.2.2⟩
def crI (ax ay bx cy px py : Int) : Int := (bx - ax) * (py - ay) - (cy - ay) * (px - ax)
def dtI (ax ay bx cy px py : Int) : Int := (bx - ax) * (px - ax) + (cy - ay) * (py - ay)
theorem crI_fit {ax ay bx cy px py : Int} (h : CoS ax ay bx cy) (h' : CoP px py) : -968000000 ≤ crI ax ay bx cy px py ∧ crI ax ay bx cy px py ≤ 968000000 := by
  obtain ⟨h1, h2, h3, h4⟩ := h
  have a := mul_fit (h3.sub h1) (h'.2.sub h2)
  have b := mul_fit (h4.sub h2) (h'.1.sub h1)
  unfold crI; omega
theorem dtI_fit {ax ay bx cy px py : Int} (h : CoS ax ay bx cy) (h' : CoP px py) : -968000000 ≤ dtI ax ay bx cy px py ∧ dtI ax ay bx cy px py ≤ 968000000 := by
  obtain ⟨h1, h2, h3, h4⟩ := h
  have a := mul_fit (h3.sub h1) (h'.1.sub h1)
  have b := mul_fit (h4.sub h2) (h'.2.sub h2)
  unfold dtI; omega
theorem sqD_fit {ax ay bx cy : Int} (h : CoP ax ay) (h' : CoP bx cy) : 0 ≤ sqD ax ay bx cy ∧ sqD ax ay bx cy ≤ 968000000 := by
  have a := h.1.sub h'.1
  have b := h.2.sub h'.2
  have p := sq_bd (d := ax - bx) (q := 22000) (by omega) (by omega)
  have q := sq_bd (d := ay - cy) (q := 22000) (by omega) (by omega)
  unfold sqD; omega
theorem crI_sq {ax ay bx cy px py : Int} (h : CoS ax ay bx cy) (h' : CoP px py) : 0 ≤ crI ax ay bx cy px py * crI ax ay bx cy px py ∧ crI ax ay bx cy px py * crI ax ay bx cy px py ≤ 937024000000000000 := by
  have := crI_fit h h'
  exact sq_bd (q := 968000000) this.1 this.2

/-- The sign. -/
def sgI (n : Int) : Int := if 0 < n then 1 else if n < 0 then -1 else 0
theorem sgI_pos {n : Int} (h : 0 < n) : sgI n = 1 := by simp [sgI, h]
theorem sgI_neg {n : Int} (h : n < 0) : sgI n = -1 := by simp [sgI, h, show ¬ 0 < n by omega]
theorem sgI_zero : sgI 0 = 0 := rfl
theorem sgI_cases (n : Int) : sgI n = -1 ∨ sgI n = 0 ∨ sgI n = 1 := by
  unfold sgI; split
  · exact .inr (.inr rfl)
  · split
    · exact .inl rfl
    · exact .inr (.inl rfl)
theorem sgI_is0 (n : Int) : (sgI n == 0) = (n == 0) := by
  rcases (show n < 0 ∨ n = 0 ∨ 0 < n by omega) with h | h | h
  · rw [sgI_neg h]; symm; simp; omega
  · subst h; rfl
  · rw [sgI_pos h]; symm; simp; omega
theorem sgI_prod (n m : Int) : -1 ≤ sgI n * sgI m ∧ sgI n * sgI m ≤ 1 := by
  rcases sgI_cases n with h | h | h <;> rcases sgI_cases m with h' | h' | h' <;> rw [h, h'] <;> omega

def mnI (a b : Int) : Int := if a < b then a else b
def mxI (a b : Int) : Int := if a > b then a else b
/-- A point in a segment's box. -/
def onB (ax ay bx cy px py : Int) : Bool := inR px (mnI ax bx) (mxI ax bx) && inR py (mnI ay cy) (mxI ay cy)
/-- A point on a segment. -/
def cvB (ax ay bx cy px py : Int) : Bool := (crI ax ay bx cy px py == 0) && onB ax ay bx cy px py
/-- Two ends on different sides. -/
def opB (ax ay bx cy px py qx qy : Int) : Bool := decide (sgI (crI ax ay bx cy px py) * sgI (crI ax ay bx cy qx qy) < 0)
/-- The segments meet. -/
def mtB (ax ay bx cy px py qx qy : Int) : Bool := (opB ax ay bx cy px py qx qy && opB px py qx qy ax ay bx cy) || (cvB ax ay bx cy px py || (cvB ax ay bx cy qx qy || (cvB px py qx qy ax ay || cvB px py qx qy bx cy)))

/-- A fraction of the kind that comes. -/
def FOk (p : Int × Int) : Prop := 0 ≤ p.1 ∧ p.1 ≤ 937024000000000000 ∧ 0 < p.2 ∧ p.2 ≤ 968000000
def redF (n d : Int) : Int × Int := (n / gcdI n d, d / gcdI n d)
theorem gcdI_dvd {n d : Int} (hn : 0 ≤ n) (hd : 0 < d) : ∃ n' d' : Int, n = gcdI n d * n' ∧ d = gcdI n d * d' := by
  obtain ⟨a, rfl⟩ := Int.eq_ofNat_of_zero_le hn
  obtain ⟨b, rfl⟩ := Int.eq_ofNat_of_zero_le (show 0 ≤ d by omega)
  unfold gcdI
  rw [Int.toNat_natCast, Int.toNat_natCast]
  obtain ⟨x, hx⟩ := Nat.gcd_dvd_left a b
  obtain ⟨y, hy⟩ := Nat.gcd_dvd_right a b
  exact ⟨x, y, by exact_mod_cast hx, by exact_mod_cast hy⟩
theorem redF_ok {n d : Int} (hn : 0 ≤ n) (h1 : n ≤ 937024000000000000) (hd : 0 < d) (h2 : d ≤ 968000000) : FOk (redF n d) := by
  have g := gcdI_pos (n := n) hd
  have g2 := gcdI_le (n := n) hd
  refine ⟨Int.ediv_nonneg hn (by omega), Int.le_trans (Int.ediv_le_self _ hn) h1, ?_, Int.le_trans (Int.ediv_le_self _ (by omega)) h2⟩
  exact Int.ediv_pos_of_pos_of_dvd hd (by omega) (by obtain ⟨_, y, _, hy⟩ := gcdI_dvd hn hd; exact ⟨y, hy⟩)
theorem gcdI_one {n : Int} : gcdI n 1 = 1 := by
  have g := gcdI_pos (n := n) (d := 1) (by omega)
  have g2 := gcdI_le (n := n) (d := 1) (by omega)
  omega
theorem redF_one (n : Int) : redF n 1 = (n, 1) := by simp [redF, gcdI_one]
/-- The square of a point's distance from a segment. -/
def pqF (ax ay bx cy px py : Int) : Int × Int :=
  if dtI ax ay bx cy px py ≤ 0 then redF (sqD ax ay px py) 1
  else if sqD ax ay bx cy ≤ dtI ax ay bx cy px py then redF (sqD bx cy px py) 1
  else redF (crI ax ay bx cy px py * crI ax ay bx cy px py) (sqD ax ay bx cy)
theorem pqF_1 {ax ay bx cy px py : Int} (h : dtI ax ay bx cy px py ≤ 0) : pqF ax ay bx cy px py = redF (sqD ax ay px py) 1 := by simp [pqF, h]
theorem pqF_2 {ax ay bx cy px py : Int} (h : ¬ dtI ax ay bx cy px py ≤ 0) (h2 : sqD ax ay bx cy ≤ dtI ax ay bx cy px py) : pqF ax ay bx cy px py = redF (sqD bx cy px py) 1 := by simp [pqF, h, h2]
theorem pqF_3 {ax ay bx cy px py : Int} (h : ¬ dtI ax ay bx cy px py ≤ 0) (h2 : ¬ sqD ax ay bx cy ≤ dtI ax ay bx cy px py) : pqF ax ay bx cy px py = redF (crI ax ay bx cy px py * crI ax ay bx cy px py) (sqD ax ay bx cy) := by simp [pqF, h, h2]
theorem pqF_ok {ax ay bx cy px py : Int} (h : CoS ax ay bx cy) (h' : CoP px py) : FOk (pqF ax ay bx cy px py) := by
  have s1 := sqD_fit h.a h'
  have s2 := sqD_fit h.b h'
  have s3 := sqD_fit h.a h.b
  have c := crI_sq h h'
  by_cases e : dtI ax ay bx cy px py ≤ 0
  · rw [pqF_1 e]; exact redF_ok s1.1 (by omega) (by omega) (by omega)
  · by_cases e2 : sqD ax ay bx cy ≤ dtI ax ay bx cy px py
    · rw [pqF_2 e e2]; exact redF_ok s2.1 (by omega) (by omega) (by omega)
    · rw [pqF_3 e e2]; exact redF_ok c.1 c.2 (by omega) (by omega)

/-- Is the first fraction less? -/
def ltF (p q : Int × Int) : Bool := decide (p.1 * q.2 < q.1 * p.2)
def bsF (b f : Int × Int) : Int × Int := if ltF f b = true then f else b
theorem bsF_y {b f : Int × Int} (h : ltF f b = true) : bsF b f = f := by simp [bsF, h]
theorem bsF_n {b f : Int × Int} (h : ltF f b = false) : bsF b f = b := by simp [bsF, h]
theorem bsF_ok {b f : Int × Int} (h : FOk b) (h' : FOk f) : FOk (bsF b f) := by unfold bsF; split <;> assumption
/-- The square of the distance of two segments. -/
def sgF (ax ay bx cy px py qx qy : Int) : Int × Int :=
  if mtB ax ay bx cy px py qx qy = true then (0, 1)
  else bsF (bsF (bsF (pqF ax ay bx cy px py) (pqF ax ay bx cy qx qy)) (pqF px py qx qy ax ay)) (pqF px py qx qy bx cy)
theorem sgF_y {ax ay bx cy px py qx qy : Int} (h : mtB ax ay bx cy px py qx qy = true) : sgF ax ay bx cy px py qx qy = (0, 1) := by simp [sgF, h]
theorem sgF_n {ax ay bx cy px py qx qy : Int} (h : mtB ax ay bx cy px py qx qy = false) : sgF ax ay bx cy px py qx qy = bsF (bsF (bsF (pqF ax ay bx cy px py) (pqF ax ay bx cy qx qy)) (pqF px py qx qy ax ay)) (pqF px py qx qy bx cy) := by simp [sgF, h]
theorem sgF_ok {ax ay bx cy px py qx qy : Int} (h : CoS ax ay bx cy) (h' : CoS px py qx qy) : FOk (sgF ax ay bx cy px py qx qy) := by
  cases e : mtB ax ay bx cy px py qx qy
  · rw [sgF_n e]; exact bsF_ok (bsF_ok (bsF_ok (pqF_ok h h'.a) (pqF_ok h h'.b)) (pqF_ok h' h.a)) (pqF_ok h' h.b)
  · rw [sgF_y e]; unfold FOk; omega
/-- Nearer than a distance. -/
def nrB (ax ay bx cy px py qx qy D : Int) : Bool := ltF (sgF ax ay bx cy px py qx qy) (D * D, 1)

/-- Euclid's way, on numbers that are not negative. -/
theorem lsI_ne {n d m e : Int} (hn : 0 ≤ n) (hd : 0 < d) (hm : 0 ≤ m) (he : 0 < e) (h : n / d ≠ m / e) : n * e < m * d ↔ n / d < m / e := by
  obtain ⟨n, rfl⟩ := Int.eq_ofNat_of_zero_le hn
  obtain ⟨m, rfl⟩ := Int.eq_ofNat_of_zero_le hm
  obtain ⟨d, rfl⟩ := Int.eq_ofNat_of_zero_le (show 0 ≤ d by omega)
  obtain ⟨e, rfl⟩ := Int.eq_ofNat_of_zero_le (show 0 ≤ e by omega)
  have := ls_ne (n := n) (d := d) (m := m) (e := e) (by omega) (by omega) (by intro k; apply h; exact_mod_cast k)
  exact_mod_cast this
theorem lsI_eq {n d m e : Int} (hn : 0 ≤ n) (hd : 0 < d) (hm : 0 ≤ m) (he : 0 < e) (h : n / d = m / e) : n * e < m * d ↔ (n % d) * e < (m % e) * d := by
  obtain ⟨n, rfl⟩ := Int.eq_ofNat_of_zero_le hn
  obtain ⟨m, rfl⟩ := Int.eq_ofNat_of_zero_le hm
  obtain ⟨d, rfl⟩ := Int.eq_ofNat_of_zero_le (show 0 ≤ d by omega)
  obtain ⟨e, rfl⟩ := Int.eq_ofNat_of_zero_le (show 0 ≤ e by omega)
  have := ls_eq (n := n) (d := d) (m := m) (e := e) (by exact_mod_cast h)
  exact_mod_cast this
theorem lsI_zero {x y d e : Int} (hx : 0 ≤ x) (hd : 0 < d) (hy : 0 ≤ y) (he : 0 < e) (h : x = 0 ∨ y = 0) : x * e < y * d ↔ x = 0 ∧ 0 < y := by
  obtain ⟨x, rfl⟩ := Int.eq_ofNat_of_zero_le hx
  obtain ⟨y, rfl⟩ := Int.eq_ofNat_of_zero_le hy
  obtain ⟨d, rfl⟩ := Int.eq_ofNat_of_zero_le (show 0 ≤ d by omega)
  obtain ⟨e, rfl⟩ := Int.eq_ofNat_of_zero_le (show 0 ≤ e by omega)
  have := ls_zero (x := x) (y := y) (d := d) (e := e) (by omega) (by omega) (by omega)
  exact_mod_cast this
/-- One round of Euclid's way that goes on. -/
theorem ltF_turn {n d m e : Int} (hn : 0 ≤ n) (hd : 0 < d) (hm : 0 ≤ m) (he : 0 < e) (h : n / d = m / e) : ltF (n, d) (m, e) = ltF (e, m % e) (d, n % d) := by
  unfold ltF
  rw [decide_eq_decide]
  rw [lsI_eq hn hd hm he h]
  show _ ↔ e * (n % d) < d * (m % e)
  rw [Int.mul_comm (n % d) e, Int.mul_comm (m % e) d]
theorem ltF_ne {n d m e : Int} (hn : 0 ≤ n) (hd : 0 < d) (hm : 0 ≤ m) (he : 0 < e) (h : n / d ≠ m / e) : ltF (n, d) (m, e) = decide (n / d < m / e) := by
  unfold ltF
  rw [decide_eq_decide]
  exact lsI_ne hn hd hm he h
theorem ltF_zero {n d m e : Int} (hn : 0 ≤ n) (hd : 0 < d) (hm : 0 ≤ m) (he : 0 < e) (h : n / d = m / e) (hz : n % d = 0 ∨ m % e = 0) : ltF (n, d) (m, e) = decide (n % d = 0 ∧ 0 < m % e) := by
  unfold ltF
  rw [decide_eq_decide]
  rw [lsI_eq hn hd hm he h]
  exact lsI_zero (Int.emod_nonneg _ (by omega)) hd (Int.emod_nonneg _ (by omega)) he hz

/-- The vector of a direction. -/
def vqT : List (Int × Int) := [(1000, 0), (966, 259), (866, 500), (707, 707), (500, 866), (259, 966)]
def rotI (d : Int) (p : Int × Int) : Int × Int := if d < 6 then p else if d < 12 then (-p.2, p.1) else if d < 18 then (-p.1, -p.2) else (p.2, -p.1)
theorem rotI_0 {d : Int} (p : Int × Int) (h : d < 6) : rotI d p = p := by simp [rotI, h]
theorem rotI_s {d : Int} (h : 6 ≤ d) (h2 : d ≤ 23) (x y : Int) : rotI (d - 6) (-y, x) = rotI d (x, y) := by
  unfold rotI
  rcases (show d < 12 ∨ (12 ≤ d ∧ d < 18) ∨ 18 ≤ d by omega) with e | e | e
  · rw [if_pos (show d - 6 < 6 by omega), if_neg (show ¬ d < 6 by omega), if_pos e]
  · rw [if_neg (show ¬ d - 6 < 6 by omega), if_pos (show d - 6 < 12 by omega), if_neg (show ¬ d < 6 by omega), if_neg (show ¬ d < 12 by omega), if_pos e.2]
  · rw [if_neg (show ¬ d - 6 < 6 by omega), if_neg (show ¬ d - 6 < 12 by omega), if_pos (show d - 6 < 18 by omega), if_neg (show ¬ d < 6 by omega), if_neg (show ¬ d < 12 by omega), if_neg (show ¬ d < 18 by omega)]
    show (- -y, -x) = (y, -x)
    rw [Int.neg_neg]
def vcI (d : Int) : Int × Int := rotI d (vqT.getD (d % 6).toNat (0, 0))
def vecOk (p : Int × Int) : Prop := -1000 ≤ p.1 ∧ p.1 ≤ 1000 ∧ -1000 ≤ p.2 ∧ p.2 ≤ 1000
theorem rotI_ok {d : Int} {p : Int × Int} (h : vecOk p) : vecOk (rotI d p) := by
  obtain ⟨x, y⟩ := p
  obtain ⟨h1, h2, h3, h4⟩ := h
  simp only at h1 h2 h3 h4
  unfold rotI vecOk
  repeat' split
  all_goals (simp only; omega)
theorem vq_ok (k : Nat) : vecOk (vqT.getD k (0, 0)) := by
  rcases (show k = 0 ∨ k = 1 ∨ k = 2 ∨ k = 3 ∨ k = 4 ∨ k = 5 ∨ 6 ≤ k by omega) with rfl | rfl | rfl | rfl | rfl | rfl | h
  all_goals try (unfold vecOk vqT; simp; done)
  rw [show vqT.getD k (0, 0) = (0, 0) by rw [List.getD, List.getElem?_eq_none (by simpa [vqT] using h)]; rfl]
  unfold vecOk
  simp
theorem vcI_ok (d : Int) : vecOk (vcI d) := rotI_ok (vq_ok _)
/-- The place at a radius in a direction. -/
def atI (x v r : Int) : Int := x + (v * r).tdiv 1000
theorem mulr_fit {v r : Int} (hv : -1000 ≤ v ∧ v ≤ 1000) (hr : 0 ≤ r ∧ r ≤ 1000) : -1000000 ≤ v * r ∧ v * r ≤ 1000000 := by
  have h : (v * r).natAbs ≤ 1000 * 1000 := by rw [Int.natAbs_mul]; exact Nat.mul_le_mul (by omega) (by omega)
  omega
theorem tdiv_fit {m : Int} (h : -1000000 ≤ m ∧ m ≤ 1000000) : -1000 ≤ m.tdiv 1000 ∧ m.tdiv 1000 ≤ 1000 := by
  have h1 : (m.tdiv 1000).natAbs = m.natAbs / (1000 : Int).natAbs := Int.natAbs_tdiv m 1000
  have : (1000 : Int).natAbs = 1000 := rfl
  rw [this] at h1
  omega
theorem atI_co {x v r : Int} (hx : -10000 ≤ x ∧ x ≤ 10000) (hv : -1000 ≤ v ∧ v ≤ 1000) (hr : 0 ≤ r ∧ r ≤ 1000) : Co (atI x v r) := by
  have := tdiv_fit (mulr_fit hv hr)
  unfold Co atI; omega
/-- The boom of a crane in a direction. -/
def bmI (c : Crn) (d : Int) : Int × Int × Int × Int := (atI c.x (vcI ((d + 12) % 24)).1 c.b, atI c.y (vcI ((d + 12) % 24)).2 c.b, atI c.x (vcI d).1 c.j, atI c.y (vcI d).2 c.j)
theorem cr_nums {c : Crn} (h : crB c = true) : (-10000 ≤ c.x ∧ c.x ≤ 10000) ∧ (-10000 ≤ c.y ∧ c.y ≤ 10000) ∧ (1 ≤ c.h ∧ c.h ≤ 2000) ∧ (1 ≤ c.j ∧ c.j ≤ 1000) ∧ (0 ≤ c.b ∧ c.b ≤ c.j) := by
  obtain ⟨-, hp, hh, hj, hb, -, -⟩ := crB_true h
  have := plB_true hp
  have h1 := inR_true hh
  have h2 := inR_true hj
  have h3 := inR_true hb
  omega
theorem bmI_co {c : Crn} (h : crB c = true) (d : Int) : CoS (bmI c d).1 (bmI c d).2.1 (bmI c d).2.2.1 (bmI c d).2.2.2 := by
  obtain ⟨h1, h2, h3, h4, h5⟩ := cr_nums h
  have v := vcI_ok d
  have u := vcI_ok ((d + 12) % 24)
  obtain ⟨v1, v2, v3, v4⟩ := v
  obtain ⟨u1, u2, u3, u4⟩ := u
  exact ⟨atI_co h1 ⟨u1, u2⟩ ⟨h5.1, by omega⟩, atI_co h2 ⟨u3, u4⟩ ⟨h5.1, by omega⟩, atI_co h1 ⟨v1, v2⟩ ⟨by omega, h4.2⟩, atI_co h2 ⟨v3, v4⟩ ⟨by omega, h4.2⟩⟩
def nrQ (s t : Int × Int × Int × Int) (D : Int) : Bool := nrB s.1 s.2.1 s.2.2.1 s.2.2.2 t.1 t.2.1 t.2.2.1 t.2.2.2 D
/-- Booms near; a boom near a mast. -/
def bbN (a b : Crn) (D d e : Int) : Bool := nrQ (bmI a d) (bmI b e) D
def bmN (a b : Crn) (D d : Int) : Bool := nrQ (bmI a d) (b.x, b.y, b.x, b.y) D
/-- Are two cranes in conflict? h is the first one's height. -/
def cfB (a b : Crn) (h D d e : Int) : Bool := (decide (h - b.h < 60) && decide (b.h - h < 60) && bbN a b D d e) || ((decide (h < b.h) && bmN a b D d) || (decide (b.h < h) && bmN b a D e))
/-- For some direction. -/
def anyD (f : Int → Bool) : Nat → Bool
  | 0 => false
  | n + 1 => anyD f n || f n
theorem anyD_true {f : Int → Bool} {n : Nat} : anyD f n = true ↔ ∃ k : Nat, k < n ∧ f k = true := by
  induction n with
  | zero => simp [anyD]
  | succ n ih =>
    simp only [anyD, Bool.or_eq_true, ih]
    constructor
    · rintro (⟨k, h1, h2⟩ | h)
      · exact ⟨k, by omega, h2⟩
      · exact ⟨n, by omega, h⟩
    · rintro ⟨k, h1, h2⟩
      rcases Nat.lt_or_eq_of_le (Nat.le_of_lt_succ h1) with h | rfl
      · exact .inl ⟨k, h, h2⟩
      · exact .inr h2
/-- What the program asks of two cranes. -/
def clN (a b : Crn) (D : Int) : Bool × Bool × Bool × Int := (anyD (fun d => anyD (fun e => bbN a b D d e) 24) 24, anyD (fun d => bmN a b D d) 24, anyD (fun d => bmN b a D d) 24, b.h)
theorem hnd_is (b f s : Bool) (k h : Int) : hnd (b, f, s, k) h = ((b && (decide (h - k < 60) && decide (k - h < 60))) || ((f && decide (h < k)) || (s && decide (k < h)))) := rfl
theorem meet_hnd (a b : Crn) (D h : Int) : anyD (fun d => anyD (fun e => cfB a b h D d e) 24) 24 = hnd (clN a b D) h := by
  have key : (anyD (fun d => anyD (fun e => cfB a b h D d e) 24) 24 = true) ↔ hnd (clN a b D) h = true := by
    simp only [clN, hnd_is, anyD_true, cfB, Bool.or_eq_true, Bool.and_eq_true, decide_eq_true_eq]
    constructor
    · rintro ⟨d, hd, e, he, (⟨⟨h1, h2⟩, h3⟩ | ⟨h1, h2⟩ | ⟨h1, h2⟩)⟩
      · exact .inl ⟨⟨d, hd, e, he, h3⟩, h1, h2⟩
      · exact .inr (.inl ⟨⟨d, hd, h2⟩, h1⟩)
      · exact .inr (.inr ⟨⟨e, he, h2⟩, h1⟩)
    · rintro (⟨⟨d, hd, e, he, h3⟩, h1, h2⟩ | ⟨⟨d, hd, h2⟩, h1⟩ | ⟨⟨e, he, h2⟩, h1⟩)
      · exact ⟨d, hd, e, he, .inl ⟨⟨h1, h2⟩, h3⟩⟩
      · exact ⟨d, hd, 0, by omega, .inr (.inl ⟨h1, h2⟩)⟩
      · exact ⟨0, by omega, e, he, .inr (.inr ⟨h1, h2⟩)⟩
  cases e : anyD (fun d => anyD (fun e => cfB a b h D d e) 24) 24 <;> cases e2 : hnd (clN a b D) h <;> simp_all
end Go.Proofs.YtajjophmngabbaaGreatDoor
