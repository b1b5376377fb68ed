/- Squares and norms of numbers in boxes. No program in sight. -/
import Derived.Test.YthggppjdapmgdaaBoM4
import Derived.Test.YthggppjdapmgdaaBo6
import Derived.Test.YthggppjdapmgdaaMDy
namespace Go.Proofs.Ythggppjdapmgdaa
set_option linter.unusedSimpArgs false
set_option linter.unusedVariables false

theorem fl_iff {n P a : Int} (h : 0 < P) : a ≤ n / P ↔ a * P ≤ n := Int.le_ediv_iff_mul_le h
theorem ce_iff {n P b : Int} (h : 0 < P) : -(-n / P) ≤ b ↔ n ≤ b * P := by
  have := fl_iff (n := -n) (a := -b) h
  rw [Int.neg_mul] at this
  omega
theorem BH_iff (a b c d r i s : Int) : BH a b c d r i s = true ↔ BV a b c d = true ∧ DV r i s = true ∧ a * 2 ^ s.toNat ≤ r * 16777216 ∧ r * 16777216 ≤ b * 2 ^ s.toNat ∧ c * 2 ^ s.toNat ≤ i * 16777216 ∧ i * 16777216 ≤ d * 2 ^ s.toNat := by
  have hp := pos2 s.toNat
  unfold BH
  simp only [Bool.and_eq_true, SW_iff]
  unfold FLq CEq
  rw [fl_iff hp, fl_iff hp, ce_iff hp, ce_iff hp]
  constructor
  · rintro ⟨⟨⟨x, y⟩, z, t⟩, u, v⟩; exact ⟨x, y, z, t, u, v⟩
  · rintro ⟨x, y, z, t, u, v⟩; exact ⟨⟨⟨x, y⟩, z, t⟩, u, v⟩
theorem mm4 (a b c d : Int) : a * b * (c * d) = a * c * (b * d) := by rw [Int.mul_assoc, ← Int.mul_assoc b, Int.mul_comm b c, Int.mul_assoc c b, ← Int.mul_assoc]
theorem mul_sq (a P : Int) : a * P * (a * P) = a * a * (P * P) := mm4 a P a P
/-- What lies in an interval over P: its square. -/
theorem sq_mem {l h P X : Int} (hP : 0 < P) (h1 : l * P ≤ X) (h2 : X ≤ h * P) : sqLo l h * (P * P) ≤ X * X ∧ X * X ≤ sqHi l h * (P * P) := by
  have hQ : 0 ≤ P * P := sq_nn P
  have hx := sq_nn X
  have lo : ∀ t : Int, sqLo l h ≤ t → sqLo l h * (P * P) ≤ t * (P * P) := fun t ht => Int.mul_le_mul_of_nonneg_right ht hQ
  have hi : ∀ t : Int, t ≤ sqHi l h → t * (P * P) ≤ sqHi l h * (P * P) := fun t ht => Int.mul_le_mul_of_nonneg_right ht hQ
  have sl : l * l ≤ sqHi l h := by unfold sqHi; omega
  have sh : h * h ≤ sqHi l h := by unfold sqHi; omega
  constructor
  · by_cases c : l ≤ 0 ∧ 0 ≤ h
    · have e : sqLo l h = 0 := if_pos c
      rw [e, Int.zero_mul]; exact hx
    · have e : sqLo l h = min (l * l) (h * h) := if_neg c
      by_cases c0 : 0 < l
      · have a0 : 0 ≤ l * P := Int.mul_nonneg (by omega) (by omega)
        have := sq_le a0 h1
        rw [mul_sq] at this
        exact Int.le_trans (lo (l * l) (by rw [e]; omega)) this
      · have a0 : h * P ≤ 0 := Int.mul_nonpos_of_nonpos_of_nonneg (by omega) (by omega)
        have := sq_le' a0 h2
        rw [mul_sq] at this
        exact Int.le_trans (lo (h * h) (by rw [e]; omega)) this
  · rcases Int.le_total 0 X with c | c
    · have := sq_le c h2
      rw [mul_sq] at this
      exact Int.le_trans this (hi _ sh)
    · have := sq_le' c h1
      rw [mul_sq] at this
      exact Int.le_trans this (hi _ sl)
/-- What lies in two intervals over P: the product. -/
theorem mul_mem_sc {a b c d P X Y : Int} (hP : 0 < P) (h1 : a * P ≤ X) (h2 : X ≤ b * P) (h3 : c * P ≤ Y) (h4 : Y ≤ d * P) : mulLo a b c d * (P * P) ≤ X * Y ∧ X * Y ≤ mulHi a b c d * (P * P) := by
  have hQ : 0 ≤ P * P := sq_nn P
  obtain ⟨m1, m2⟩ := mul_mem h1 h2 h3 h4
  have lo : ∀ t : Int, mulLo a b c d ≤ t → mulLo a b c d * (P * P) ≤ t * (P * P) := fun t ht => Int.mul_le_mul_of_nonneg_right ht hQ
  have hi : ∀ t : Int, t ≤ mulHi a b c d → t * (P * P) ≤ mulHi a b c d * (P * P) := fun t ht => Int.mul_le_mul_of_nonneg_right ht hQ
  have e : ∀ x y : Int, x * P * (y * P) = x * y * (P * P) := fun x y => mm4 x P y P
  have l1 := lo (a * c) (by unfold mulLo; omega)
  have l2 := lo (a * d) (by unfold mulLo; omega)
  have l3 := lo (b * c) (by unfold mulLo; omega)
  have l4 := lo (b * d) (by unfold mulLo; omega)
  have k1 := hi (a * c) (by unfold mulHi; omega)
  have k2 := hi (a * d) (by unfold mulHi; omega)
  have k3 := hi (b * c) (by unfold mulHi; omega)
  have k4 := hi (b * d) (by unfold mulHi; omega)
  have m1' : min (min (min (a * c * (P * P)) (a * d * (P * P))) (b * c * (P * P))) (b * d * (P * P)) ≤ X * Y := by
    have := m1; unfold mulLo at this; rw [e, e, e, e] at this; exact this
  have m2' : X * Y ≤ max (max (max (a * c * (P * P)) (a * d * (P * P))) (b * c * (P * P))) (b * d * (P * P)) := by
    have := m2; unfold mulHi at this; rw [e, e, e, e] at this; exact this
  omega
/-- Sums of products in steps: a number's square in a box's square. -/
theorem shrink {k q u Z : Int} (hk : 0 < k) (h : q * k ≤ u) {Q : Int} (hQ : 0 ≤ Q) (hu : u * Q ≤ Z * (k * k)) : q * Q ≤ Z * k := by
  have h1 : q * k * Q ≤ u * Q := Int.mul_le_mul_of_nonneg_right h hQ
  have h2 : q * Q * k ≤ Z * k * k := by
    have e1 : q * Q * k = q * k * Q := by rw [Int.mul_assoc, Int.mul_comm Q k, ← Int.mul_assoc]
    rw [e1, Int.mul_assoc Z k k]; omega
  exact Int.le_of_mul_le_mul_right h2 hk
theorem shrink' {k q u Z : Int} (hk : 0 < k) (h : u ≤ q * k) {Q : Int} (hQ : 0 ≤ Q) (hu : Z * (k * k) ≤ u * Q) : Z * k ≤ q * Q := by
  have h1 : u * Q ≤ q * k * Q := Int.mul_le_mul_of_nonneg_right h hQ
  have h2 : Z * k * k ≤ q * Q * k := by
    have e1 : q * Q * k = q * k * Q := by rw [Int.mul_assoc, Int.mul_comm Q k, ← Int.mul_assoc]
    rw [e1, Int.mul_assoc Z k k]; omega
  exact Int.le_of_mul_le_mul_right h2 hk
theorem fl_mul (n d : Int) (hd : 0 < d) : fl n d * d ≤ n := (fl_iff hd).1 (Int.le_refl _)
theorem ce_mul (n d : Int) (hd : 0 < d) : n ≤ ce n d * d := (ce_iff hd).1 (Int.le_refl _)
theorem two_pow_2s (s : Int) (h : 0 ≤ s) : (2 : Int) ^ (2 * s).toNat = 2 ^ s.toNat * 2 ^ s.toNat := by rw [← Int.pow_add]; congr 1; omega
theorem lowterm {A n Q m2 t : Int} (hm : 0 < m2) (hA : A * m2 = n) (h : t * (Q * m2) ≤ n * 16777216) : t * Q ≤ A * 16777216 := by
  have : t * Q * m2 ≤ A * 16777216 * m2 := by
    rw [Int.mul_assoc t Q m2, Int.mul_assoc A, Int.mul_comm 16777216 m2, ← Int.mul_assoc A, hA]; exact h
  exact Int.le_of_mul_le_mul_right this hm
theorem lowterm' {A n Q m2 t : Int} (hm : 0 < m2) (hA : A * m2 = n) (h : n * 16777216 ≤ t * (Q * m2)) : A * 16777216 ≤ t * Q := by
  have : A * 16777216 * m2 ≤ t * Q * m2 := by
    rw [Int.mul_assoc t Q m2, Int.mul_assoc A, Int.mul_comm 16777216 m2, ← Int.mul_assoc A, hA]; exact h
  exact Int.le_of_mul_le_mul_right this hm
/-- The square of a number in a box lies in the box's square. -/
theorem sq_in {a b c d r i s : Int} (h : BH a b c d r i s = true) (hq : SQB a b c d = true) (hs : SQ r i s = true) :
    BH (sq0 a b c d) (sq1 a b c d) (sq2 a b c d) (sq3 a b c d) (lR (SR r i) (SI r i) (2 * s)) (lI (SR r i) (SI r i) (2 * s)) (lS (SR r i) (SI r i) (2 * s)) = true := by
  obtain ⟨v1, v2, x1, x2, y1, y2⟩ := (BH_iff _ _ _ _ _ _ _).1 h
  have hs0 : 0 ≤ s := by obtain ⟨_, _, _, _, h5, _⟩ := (DV_iff _ _ _).1 v2; exact h5
  have v3 : BV (sq0 a b c d) (sq1 a b c d) (sq2 a b c d) (sq3 a b c d) = true := (Bool.and_eq_true_iff.1 hq).2
  have v4 : DV (lR (SR r i) (SI r i) (2 * s)) (lI (SR r i) (SI r i) (2 * s)) (lS (SR r i) (SI r i) (2 * s)) = true := (Bool.and_eq_true_iff.1 (Bool.and_eq_true_iff.1 hs).2).2
  obtain ⟨m, e1, e2, e3, -⟩ := l_spec (SR r i) (SI r i) (2 * s) (by omega)
  have e4 := lS_nonneg (SR r i) (SI r i) (2 * s)
  have hP := pos2 s.toNat
  generalize hPP : (2 : Int) ^ s.toNat = P at *
  have hQ : 0 ≤ P * P := sq_nn P
  have hpow : P * P = 2 ^ (lS (SR r i) (SI r i) (2 * s)).toNat * 2 ^ m := by
    rw [← hPP, ← two_pow_2s s hs0, ← Int.pow_add]; congr 1; omega
  obtain ⟨p1, p2⟩ := sq_mem hP x1 x2
  obtain ⟨p3, p4⟩ := sq_mem hP y1 y2
  obtain ⟨p5, p6⟩ := mul_mem_sc hP x1 x2 y1 y2
  have k : ∀ x y : Int, x * 16777216 * (y * 16777216) = x * y * (16777216 * 16777216) := fun x y => mm4 x _ y _
  rw [k] at p1 p2 p3 p4 p5 p6
  have u1 : (sqLo a b - sqHi c d) * (P * P) ≤ SR r i * (16777216 * 16777216) := by unfold SR; rw [Int.sub_mul, Int.sub_mul]; omega
  have u2 : SR r i * (16777216 * 16777216) ≤ (sqHi a b - sqLo c d) * (P * P) := by unfold SR; rw [Int.sub_mul, Int.sub_mul]; omega
  have u3 : 2 * mulLo a b c d * (P * P) ≤ SI r i * (16777216 * 16777216) := by unfold SI; rw [Int.mul_assoc 2, Int.mul_assoc 2, Int.mul_assoc 2]; omega
  have u4 : SI r i * (16777216 * 16777216) ≤ 2 * mulHi a b c d * (P * P) := by unfold SI; rw [Int.mul_assoc 2, Int.mul_assoc 2, Int.mul_assoc 2]; omega
  have w1 := shrink (by decide) (fl_mul (sqLo a b - sqHi c d) 16777216 (by decide)) hQ u1
  have w2 := shrink' (by decide) (ce_mul (sqHi a b - sqLo c d) 16777216 (by decide)) hQ u2
  have w3 := shrink (by decide) (fl_mul (2 * mulLo a b c d) 16777216 (by decide)) hQ u3
  have w4 := shrink' (by decide) (ce_mul (2 * mulHi a b c d) 16777216 (by decide)) hQ u4
  rw [hpow] at w1 w2 w3 w4
  have hm := pos2 m
  exact (BH_iff _ _ _ _ _ _ _).2 ⟨v3, v4, lowterm hm e2.symm w1, lowterm' hm e2.symm w2, lowterm hm e3.symm w3, lowterm' hm e3.symm w4⟩
/-- A number's norm is between a box's norms. -/
theorem norm_in {a b c d r i s : Int} (h : BH a b c d r i s = true) : (NM r i s ≤ 0 ∨ 1125899906842624 < NHi a b c d) ∧ (0 ≤ NM r i s ∨ NLo a b c d < 1125899906842624) := by
  obtain ⟨v1, v2, x1, x2, y1, y2⟩ := (BH_iff _ _ _ _ _ _ _).1 h
  obtain ⟨r1, r2, i1, i2, hs0, hs1, -⟩ := (DV_iff _ _ _).1 v2
  have hP := pos2 s.toNat
  have hF : F4 s = 4 * (2 ^ s.toNat * 2 ^ s.toNat) := by unfold F4; rw [two_pow_2s s hs0]
  have hP30 : 30 ≤ s → (1073741824 : Int) ≤ 2 ^ s.toNat := fun h => by
    have e : (1073741824 : Int) = 2 ^ 30 := by decide
    rw [e]
    exact pow_le' (by omega)
  generalize hPP : (2 : Int) ^ s.toNat = P at *
  obtain ⟨p1, p2⟩ := sq_mem hP x1 x2
  obtain ⟨p3, p4⟩ := sq_mem hP y1 y2
  have k : ∀ x y : Int, x * 16777216 * (y * 16777216) = x * y * (16777216 * 16777216) := fun x y => mm4 x _ y _
  rw [k] at p1 p2 p3 p4
  have hQ : 0 < P * P := Int.mul_pos hP hP
  have q1 : NLo a b c d * (P * P) ≤ (r * r + i * i) * (16777216 * 16777216) := by unfold NLo; rw [Int.add_mul, Int.add_mul]; omega
  have q2 : (r * r + i * i) * (16777216 * 16777216) ≤ NHi a b c d * (P * P) := by unfold NHi; rw [Int.add_mul, Int.add_mul]; omega
  have lt_of : ∀ {x y : Int}, x * (P * P) < y * (P * P) → x < y := fun h => Int.lt_of_mul_lt_mul_right h (Int.le_of_lt hQ)
  unfold NM
  rw [hF]
  by_cases c1 : 30 ≤ s ∨ r * r + i * i < 4 * (P * P)
  · rw [if_pos c1]
    refine ⟨Or.inl (by decide), Or.inr ?_⟩
    have c3 : r * r + i * i < 4 * (P * P) := by
      rcases c1 with c | c
      · have hp := hP30 c
        have hpp : 1073741824 * 1073741824 ≤ P * P := sq_le (by decide) hp
        have hr := sq_bd30 r ⟨r1, r2⟩
        have hi := sq_bd30 i ⟨i1, i2⟩
        omega
      · exact c
    have c4 : (r * r + i * i) * (16777216 * 16777216) < 4 * (P * P) * (16777216 * 16777216) := Int.mul_lt_mul_of_pos_right c3 (by decide)
    refine lt_of ?_
    have : (1125899906842624 : Int) * (P * P) = 4 * (P * P) * (16777216 * 16777216) := by omega
    omega
  · rw [if_neg c1]
    by_cases c2 : r * r + i * i = 4 * (P * P)
    · rw [if_pos c2]; exact ⟨Or.inl (Int.le_refl _), Or.inl (Int.le_refl _)⟩
    · rw [if_neg c2]
      refine ⟨Or.inr ?_, Or.inl (by decide)⟩
      have c3 : 4 * (P * P) < r * r + i * i := by omega
      have c4 : 4 * (P * P) * (16777216 * 16777216) < (r * r + i * i) * (16777216 * 16777216) := Int.mul_lt_mul_of_pos_right c3 (by decide)
      refine lt_of ?_
      have : (1125899906842624 : Int) * (P * P) = 4 * (P * P) * (16777216 * 16777216) := by omega
      omega
end Go.Proofs.Ythggppjdapmgdaa
