/- Plain laws on the squares of boxes within boxes. No program in sight. -/
import Derived.Test.YthggppjdapmgdaaBoM3
namespace Go.Proofs.Ythggppjdapmgdaa
set_option linter.unusedSimpArgs false
set_option linter.unusedVariables false

theorem lin_l {a b x : Int} (y : Int) (h1 : a ≤ x) (h2 : x ≤ b) : min (a * y) (b * y) ≤ x * y ∧ x * y ≤ max (a * y) (b * y) := by
  rcases Int.le_total 0 y with h | h
  · have := Int.mul_le_mul_of_nonneg_right h1 h
    have := Int.mul_le_mul_of_nonneg_right h2 h
    omega
  · have := Int.mul_le_mul_of_nonpos_right h1 h
    have := Int.mul_le_mul_of_nonpos_right h2 h
    omega
theorem lin_r {c d y : Int} (x : Int) (h1 : c ≤ y) (h2 : y ≤ d) : min (x * c) (x * d) ≤ x * y ∧ x * y ≤ max (x * c) (x * d) := by
  have := lin_l x h1 h2
  rwa [Int.mul_comm c x, Int.mul_comm d x, Int.mul_comm y x] at this
/-- A product of parts of two intervals lies in the interval of the products. -/
theorem mul_mem {a b c d x y : Int} (h1 : a ≤ x) (h2 : x ≤ b) (k1 : c ≤ y) (k2 : y ≤ d) : mulLo a b c d ≤ x * y ∧ x * y ≤ mulHi a b c d := by
  have e1 := lin_l y h1 h2
  have e2 := lin_r a k1 k2
  have e3 := lin_r b k1 k2
  unfold mulLo mulHi
  omega
theorem mulLo_mono {a b c d e f g h : Int} (h1 : e ≤ a) (h2 : a ≤ b) (h3 : b ≤ f) (k1 : g ≤ c) (k2 : c ≤ d) (k3 : d ≤ h) : mulLo e f g h ≤ mulLo a b c d := by
  have e1 := (mul_mem (a := e) (b := f) (c := g) (d := h) (x := a) (y := c) (by omega) (by omega) (by omega) (by omega)).1
  have e2 := (mul_mem (a := e) (b := f) (c := g) (d := h) (x := a) (y := d) (by omega) (by omega) (by omega) (by omega)).1
  have e3 := (mul_mem (a := e) (b := f) (c := g) (d := h) (x := b) (y := c) (by omega) (by omega) (by omega) (by omega)).1
  have e4 := (mul_mem (a := e) (b := f) (c := g) (d := h) (x := b) (y := d) (by omega) (by omega) (by omega) (by omega)).1
  generalize mulLo e f g h = M at *
  unfold mulLo
  omega
theorem mulHi_mono {a b c d e f g h : Int} (h1 : e ≤ a) (h2 : a ≤ b) (h3 : b ≤ f) (k1 : g ≤ c) (k2 : c ≤ d) (k3 : d ≤ h) : mulHi a b c d ≤ mulHi e f g h := by
  have e1 := (mul_mem (a := e) (b := f) (c := g) (d := h) (x := a) (y := c) (by omega) (by omega) (by omega) (by omega)).2
  have e2 := (mul_mem (a := e) (b := f) (c := g) (d := h) (x := a) (y := d) (by omega) (by omega) (by omega) (by omega)).2
  have e3 := (mul_mem (a := e) (b := f) (c := g) (d := h) (x := b) (y := c) (by omega) (by omega) (by omega) (by omega)).2
  have e4 := (mul_mem (a := e) (b := f) (c := g) (d := h) (x := b) (y := d) (by omega) (by omega) (by omega) (by omega)).2
  generalize mulHi e f g h = M at *
  unfold mulHi
  omega
theorem mulLo_le_Hi (a b c d : Int) : mulLo a b c d ≤ mulHi a b c d := by unfold mulLo mulHi; omega
theorem sq01 (a b c d : Int) : sq0 a b c d ≤ sq1 a b c d := by
  have := sqLo_le a b; have := sqLo_le c d
  exact fl_ce (by decide) (by omega)
theorem sq23 (a b c d : Int) : sq2 a b c d ≤ sq3 a b c d := by
  have := mulLo_le_Hi a b c d
  exact fl_ce (by decide) (by omega)
theorem sq_mono {a b c d e f g h : Int} (h1 : e ≤ a) (h2 : a ≤ b) (h3 : b ≤ f) (k1 : g ≤ c) (k2 : c ≤ d) (k3 : d ≤ h) : sq0 e f g h ≤ sq0 a b c d ∧ sq1 a b c d ≤ sq1 e f g h ∧ sq2 e f g h ≤ sq2 a b c d ∧ sq3 a b c d ≤ sq3 e f g h := by
  have a1 := sqLo_mono h1 h2 h3; have a2 := sqHi_mono h1 h2 h3
  have b1 := sqLo_mono k1 k2 k3; have b2 := sqHi_mono k1 k2 k3
  have c1 := mulLo_mono h1 h2 h3 k1 k2 k3; have c2 := mulHi_mono h1 h2 h3 k1 k2 k3
  exact ⟨fl_mono (by decide) (by omega), ce_mono (by decide) (by omega), fl_mono (by decide) (by omega), ce_mono (by decide) (by omega)⟩
theorem BW_iff (a b c d e f g h : Int) : BW a b c d e f g h = true ↔ BV a b c d = true ∧ BV e f g h = true ∧ e ≤ a ∧ b ≤ f ∧ g ≤ c ∧ d ≤ h := by
  unfold BW
  simp only [Bool.and_eq_true, SW_iff]
  constructor
  · rintro ⟨⟨⟨x, y⟩, z, t⟩, u, v⟩; exact ⟨x, y, z, t, u, v⟩
  · rintro ⟨x, y, z, t, u, v⟩; exact ⟨⟨⟨x, y⟩, z, t⟩, u, v⟩
/-- The square of a box within a box lies within its square. -/
theorem sq_within {a b c d e f g h : Int} (hw : BW a b c d e f g h = true) (hq : SQB e f g h = true) : SQB a b c d = true ∧ BW (sq0 a b c d) (sq1 a b c d) (sq2 a b c d) (sq3 a b c d) (sq0 e f g h) (sq1 e f g h) (sq2 e f g h) (sq3 e f g h) = true := by
  obtain ⟨v1, v2, w1, w2, w3, w4⟩ := (BW_iff _ _ _ _ _ _ _ _).1 hw
  obtain ⟨p1, p2, p3, p4, p5, p6⟩ := (BV_iff _ _ _ _).1 v1
  have hs : BV (sq0 e f g h) (sq1 e f g h) (sq2 e f g h) (sq3 e f g h) = true := (Bool.and_eq_true_iff.1 hq).2
  obtain ⟨q1, q2, q3, q4, q5, q6⟩ := (BV_iff _ _ _ _).1 hs
  obtain ⟨m0, m1, m2, m3⟩ := sq_mono w1 p2 w2 w3 p5 w4
  have := sq01 a b c d
  have := sq23 a b c d
  have hi : BV (sq0 a b c d) (sq1 a b c d) (sq2 a b c d) (sq3 a b c d) = true := (BV_iff _ _ _ _).2 ⟨by omega, by omega, by omega, by omega, by omega, by omega⟩
  exact ⟨Bool.and_eq_true_iff.2 ⟨v1, hi⟩, (BW_iff _ _ _ _ _ _ _ _).2 ⟨hi, hs, m0, m1, m2, m3⟩⟩
theorem N_mono {a b c d e f g h : Int} (h1 : e ≤ a) (h2 : a ≤ b) (h3 : b ≤ f) (k1 : g ≤ c) (k2 : c ≤ d) (k3 : d ≤ h) : NLo e f g h ≤ NLo a b c d ∧ NHi a b c d ≤ NHi e f g h :=
  ⟨Int.add_le_add (sqLo_mono h1 h2 h3) (sqLo_mono k1 k2 k3), Int.add_le_add (sqHi_mono h1 h2 h3) (sqHi_mono k1 k2 k3)⟩
end Go.Proofs.Ythggppjdapmgdaa
