import Derived.Test.YthggppjdapmgdaaSym
import Derived.Test.YthggppjdapmgdaaBoM7
import Derived.Test.YthggppjdapmgdaaBoM3
import Derived.Test.YthggppjdapmgdaaOr2
/- Cells of the cardioid and the disc whose orbits stay: a finite check. Plain Lean. -/
namespace Go.Proofs.Ythggppjdapmgdaa
set_option linter.unusedSimpArgs false
set_option linter.unusedVariables false
/-- The boxes of an orbit stay so long. -/
def gdo (a b c d : Int) : Nat → Int → Int → Int → Int → Bool
  | 0, p, q, r, s => decide (NHi p q r s ≤ 1125899906842624)
  | n + 1, p, q, r, s => decide (NHi p q r s ≤ 1125899906842624) && (SQB p q r s && (ADB (sq0 p q r s) (sq1 p q r s) (sq2 p q r s) (sq3 p q r s) a b c d && gdo a b c d n (sq0 p q r s + a) (sq1 p q r s + b) (sq2 p q r s + c) (sq3 p q r s + d)))
def cellOk (x y g : Int) : Bool := gdo (4096 * x) (4096 * (x + g)) (4096 * y) (4096 * (y + g)) 7 0 0 0 0
def lowS (x0 x1 y0 y1 : Int) : Int := sqLo (x0 - 1024) (x1 - 1024) + sqLo y0 y1 + (x0 - 1024) * 4096
def lowC (x0 x1 y0 y1 : Int) : Int := (if 0 ≤ lowS x0 x1 y0 y1 then sqLo (x0 - 1024) (x1 - 1024) + sqLo y0 y1 else sqHi (x0 - 1024) (x1 - 1024) + sqHi y0 y1) * lowS x0 x1 y0 y1 - sqHi y0 y1 * 4194304
def lowD (x0 x1 y0 y1 : Int) : Int := sqLo (x0 + 4096) (x1 + 4096) + sqLo y0 y1 - 1048576
def outCD (x y g : Int) : Bool := decide (0 < lowC x (x + g - 1) y (y + g - 1)) && decide (0 < lowD x (x + g - 1) y (y + g - 1))
def okC : Nat → Int → Int → Int → Bool
  | 0, x, y, g => outCD x y g || cellOk x y g
  | n + 1, x, y, g => outCD x y g || (cellOk x y g || (okC n x y (g / 2) && (okC n (x + g / 2) y (g / 2) && (okC n x (y + g / 2) (g / 2) && okC n (x + g / 2) (y + g / 2) (g / 2)))))
def rowC (i : Nat) : Bool := (List.range 24).all fun (j : Nat) => okC 2 (256 * (i : Int) - 5120) (256 * (j : Int) - 3072) 256
theorem rowC_all : (List.range 28).all rowC = true := by decide +kernel
end Go.Proofs.Ythggppjdapmgdaa
/- Exact numbers in the cardioid and the disc do not leave: plain Lean. -/
namespace Go.Proofs.Ythggppjdapmgdaa
set_option linter.unusedSimpArgs false
set_option linter.unusedVariables false
/-! ### The finite check, read -/
theorem gdo_spec (a b c d : Int) : ∀ (n k : Nat), gdo a b c d n (bz a b c d k).1 (bz a b c d k).2.1 (bz a b c d k).2.2.1 (bz a b c d k).2.2.2 = true → ∀ j : Nat, j ≤ n → (∀ i, k ≤ i → i < k + j → bok a b c d i = true) ∧ NHi (bz a b c d (k + j)).1 (bz a b c d (k + j)).2.1 (bz a b c d (k + j)).2.2.1 (bz a b c d (k + j)).2.2.2 ≤ 1125899906842624
  | 0, k, h, j, hj => by
    obtain rfl : j = 0 := by omega
    unfold gdo at h
    exact ⟨fun i h1 h2 => absurd h2 (by omega), of_decide_eq_true h⟩
  | n + 1, k, h, j, hj => by
    unfold gdo at h
    simp only [Bool.and_eq_true] at h
    obtain ⟨h1, h2, h3, h4⟩ := h
    cases j with
    | zero => exact ⟨fun i h1 h2 => absurd h2 (by omega), of_decide_eq_true h1⟩
    | succ j =>
      have q0 : qq0 (bz a b c d k).1 (bz a b c d k).2.1 (bz a b c d k).2.2.1 (bz a b c d k).2.2.2 = sq0 (bz a b c d k).1 (bz a b c d k).2.1 (bz a b c d k).2.2.1 (bz a b c d k).2.2.2 := if_pos h2
      have q1 : qq1 (bz a b c d k).1 (bz a b c d k).2.1 (bz a b c d k).2.2.1 (bz a b c d k).2.2.2 = sq1 (bz a b c d k).1 (bz a b c d k).2.1 (bz a b c d k).2.2.1 (bz a b c d k).2.2.2 := if_pos h2
      have q2 : qq2 (bz a b c d k).1 (bz a b c d k).2.1 (bz a b c d k).2.2.1 (bz a b c d k).2.2.2 = sq2 (bz a b c d k).1 (bz a b c d k).2.1 (bz a b c d k).2.2.1 (bz a b c d k).2.2.2 := if_pos h2
      have q3 : qq3 (bz a b c d k).1 (bz a b c d k).2.1 (bz a b c d k).2.2.1 (bz a b c d k).2.2.2 = sq3 (bz a b c d k).1 (bz a b c d k).2.1 (bz a b c d k).2.2.1 (bz a b c d k).2.2.2 := if_pos h2
      have hb : bok a b c d k = true := by unfold bok; simp only [q0, q1, q2, q3, h2, h3, Bool.and_true]
      have e0 : (bz a b c d (k + 1)).1 = sq0 (bz a b c d k).1 (bz a b c d k).2.1 (bz a b c d k).2.2.1 (bz a b c d k).2.2.2 + a := by
        show aa0 _ _ _ _ _ _ _ _ = _; rw [q0, q1, q2, q3]; exact if_pos h3
      have e1 : (bz a b c d (k + 1)).2.1 = sq1 (bz a b c d k).1 (bz a b c d k).2.1 (bz a b c d k).2.2.1 (bz a b c d k).2.2.2 + b := by
        show aa1 _ _ _ _ _ _ _ _ = _; rw [q0, q1, q2, q3]; exact if_pos h3
      have e2 : (bz a b c d (k + 1)).2.2.1 = sq2 (bz a b c d k).1 (bz a b c d k).2.1 (bz a b c d k).2.2.1 (bz a b c d k).2.2.2 + c := by
        show aa2 _ _ _ _ _ _ _ _ = _; rw [q0, q1, q2, q3]; exact if_pos h3
      have e3 : (bz a b c d (k + 1)).2.2.2 = sq3 (bz a b c d k).1 (bz a b c d k).2.1 (bz a b c d k).2.2.1 (bz a b c d k).2.2.2 + d := by
        show aa3 _ _ _ _ _ _ _ _ = _; rw [q0, q1, q2, q3]; exact if_pos h3
      rw [← e0, ← e1, ← e2, ← e3] at h4
      obtain ⟨r1, r2⟩ := gdo_spec a b c d n (k + 1) h4 j (by omega)
      refine ⟨fun i h1 h2 => ?_, by rw [show k + (j + 1) = k + 1 + j by omega]; exact r2⟩
      by_cases e : i = k
      · rw [e]; exact hb
      · exact r1 i (by omega) (by omega)
theorem sqLo_self (x : Int) : sqLo x x = x * x := by
  unfold sqLo
  split
  · obtain rfl : x = 0 := by omega
    rfl
  · omega
theorem sqHi_self (x : Int) : sqHi x x = x * x := by unfold sqHi; omega
def PQ (x y : Int) : Int := (x - 1024) * (x - 1024) + y * y
def PC (x y : Int) : Int := PQ x y * (PQ x y + (x - 1024) * 4096) - y * y * 4194304
def PD (x y : Int) : Int := (x + 4096) * (x + 4096) + y * y - 1048576
theorem fl_4 (x : Int) : fl (4096 * x) 4096 = x := by unfold fl; omega
theorem ce_4 (x : Int) : ce (4096 * x) 4096 = x := by unfold ce; omega
theorem PC_eq (x y : Int) : CBD (4096 * x) (4096 * x) (4096 * y) (4096 * y) = PC x y := by
  unfold CBD cS cqL cqH cyL cyH cuL cuH
  rw [fl_4, fl_4, ce_4, ce_4, sqLo_self, sqHi_self, sqLo_self, sqHi_self]
  split <;> rfl
theorem PD_eq (x y : Int) : DBD (4096 * x) (4096 * x) (4096 * y) (4096 * y) = PD x y := by
  unfold DBD cyH
  rw [fl_4, fl_4, ce_4, ce_4, sqHi_self, sqHi_self]
  rfl
theorem CBD_co (a b c d : Int) : CBD (4096 * fl a 4096) (4096 * ce b 4096) (4096 * fl c 4096) (4096 * ce d 4096) = CBD a b c d := by
  unfold CBD cS cqL cqH cyL cyH cuL cuH
  rw [fl_4, fl_4, ce_4, ce_4]
theorem DBD_co (a b c d : Int) : DBD (4096 * fl a 4096) (4096 * ce b 4096) (4096 * fl c 4096) (4096 * ce d 4096) = DBD a b c d := by
  unfold DBD cyH
  rw [fl_4, fl_4, ce_4, ce_4]
theorem sq_rng {x l h : Int} (h1 : l ≤ x) (h2 : x ≤ h) : sqLo l h ≤ x * x ∧ x * x ≤ sqHi l h := by
  have := sq_mem (l := l) (h := h) (P := 1) (X := x) (by decide) (by omega) (by omega)
  omega
theorem lowC_le {x0 x1 y0 y1 x y : Int} (h1 : x0 ≤ x) (h2 : x ≤ x1) (k1 : y0 ≤ y) (k2 : y ≤ y1) : lowC x0 x1 y0 y1 ≤ PC x y := by
  obtain ⟨a1, a2⟩ := sq_rng (x := x - 1024) (l := x0 - 1024) (h := x1 - 1024) (by omega) (by omega)
  obtain ⟨b1, b2⟩ := sq_rng k1 k2
  have hq : 0 ≤ PQ x y := by have := sq_nn (x - 1024); have := sq_nn y; unfold PQ; omega
  have hs : lowS x0 x1 y0 y1 ≤ PQ x y + (x - 1024) * 4096 := by unfold lowS PQ; omega
  have hq1 : sqLo (x0 - 1024) (x1 - 1024) + sqLo y0 y1 ≤ PQ x y := by unfold PQ; omega
  have hq2 : PQ x y ≤ sqHi (x0 - 1024) (x1 - 1024) + sqHi y0 y1 := by unfold PQ; omega
  have hlo : 0 ≤ sqLo (x0 - 1024) (x1 - 1024) + sqLo y0 y1 := by have := sqLo_nn (x0 - 1024) (x1 - 1024); have := sqLo_nn y0 y1; omega
  unfold lowC PC
  generalize hL : sqLo (x0 - 1024) (x1 - 1024) + sqLo y0 y1 = L at *
  generalize hH : sqHi (x0 - 1024) (x1 - 1024) + sqHi y0 y1 = H at *
  generalize hT : PQ x y + (x - 1024) * 4096 = T at *
  generalize hS : lowS x0 x1 y0 y1 = S at *
  generalize hQ : PQ x y = Q at *
  have key : (if 0 ≤ S then L else H) * S ≤ Q * T := by
    split
    · rename_i h
      exact Int.le_trans (Int.mul_le_mul_of_nonneg_right hq1 h) (Int.mul_le_mul_of_nonneg_left hs hq)
    · rename_i h
      have e1 : H * S ≤ Q * S := Int.mul_le_mul_of_nonpos_right hq2 (by omega)
      exact Int.le_trans e1 (Int.mul_le_mul_of_nonneg_left hs hq)
  omega
theorem lowD_le {x0 x1 y0 y1 x y : Int} (h1 : x0 ≤ x) (h2 : x ≤ x1) (k1 : y0 ≤ y) (k2 : y ≤ y1) : lowD x0 x1 y0 y1 ≤ PD x y := by
  obtain ⟨a1, a2⟩ := sq_rng (x := x + 4096) (l := x0 + 4096) (h := x1 + 4096) (by omega) (by omega)
  obtain ⟨b1, b2⟩ := sq_rng k1 k2
  unfold lowD PD; omega
theorem out_no {x y g px py : Int} (h : outCD x y g = true) (h1 : x ≤ px) (h2 : px < x + g) (k1 : y ≤ py) (k2 : py < y + g) : ¬ (PC px py ≤ 0 ∨ PD px py ≤ 0) := by
  unfold outCD at h
  simp only [Bool.and_eq_true, decide_eq_true_eq] at h
  have := lowC_le (x0 := x) (x1 := x + g - 1) (y0 := y) (y1 := y + g - 1) (x := px) (y := py) h1 (by omega) k1 (by omega)
  have := lowD_le (x0 := x) (x1 := x + g - 1) (y0 := y) (y1 := y + g - 1) (x := px) (y := py) h1 (by omega) k1 (by omega)
  omega
theorem okC_spec : ∀ (n : Nat) (x y g : Int), g = 64 * 2 ^ n → okC n x y g = true → ∀ px py : Int, x ≤ px → px < x + g → y ≤ py → py < y + g → PC px py ≤ 0 ∨ PD px py ≤ 0 → ∃ x' y' g' : Int, x' ≤ px ∧ px < x' + g' ∧ y' ≤ py ∧ py < y' + g' ∧ cellOk x' y' g' = true
  | 0, x, y, g, hg, h, px, py, h1, h2, k1, k2, hp => by
    unfold okC at h
    rcases Bool.or_eq_true_iff.1 h with h | h
    · exact absurd hp (out_no h h1 h2 k1 k2)
    · exact ⟨x, y, g, h1, h2, k1, k2, h⟩
  | n + 1, x, y, g, hg, h, px, py, h1, h2, k1, k2, hp => by
    unfold okC at h
    rw [Int.pow_succ] at hg
    have hg2 : g / 2 = 64 * 2 ^ n := by omega
    have hgg : g / 2 + g / 2 = g := by omega
    rcases Bool.or_eq_true_iff.1 h with h | h
    · exact absurd hp (out_no h h1 h2 k1 k2)
    rcases Bool.or_eq_true_iff.1 h with h | h
    · exact ⟨x, y, g, h1, h2, k1, k2, h⟩
    simp only [Bool.and_eq_true] at h
    obtain ⟨c1, c2, c3, c4⟩ := h
    by_cases e1 : px < x + g / 2 <;> by_cases e2 : py < y + g / 2
    · exact okC_spec n _ _ _ hg2 c1 px py (by omega) (by omega) (by omega) (by omega) hp
    · exact okC_spec n _ _ _ hg2 c3 px py (by omega) (by omega) (by omega) (by omega) hp
    · exact okC_spec n _ _ _ hg2 c2 px py (by omega) (by omega) (by omega) (by omega) hp
    · exact okC_spec n _ _ _ hg2 c4 px py (by omega) (by omega) (by omega) (by omega) hp
theorem sq_lt {x K M : Int} (h : x * x ≤ M) (hK : 0 ≤ K) (hM : M < K * K) : -K < x ∧ x < K := by
  constructor
  · apply Int.lt_of_not_ge
    intro hx
    have : K * K ≤ (-x) * (-x) := Int.mul_le_mul (by omega) (by omega) hK (by omega)
    rw [Int.neg_mul_neg] at this; omega
  · apply Int.lt_of_not_ge
    intro hx
    have : K * K ≤ x * x := Int.mul_le_mul hx hx hK (by omega)
    omega
/-- Where the polynomials are not positive. -/
theorem pc_rng {x y : Int} (h : PC x y ≤ 0) : -4000 < x ∧ x < 1900 ∧ -2900 < y ∧ y < 2900 := by
  have hy := sq_nn y
  have hu := sq_nn (x - 1024)
  have hQ : 0 ≤ PQ x y := by unfold PQ; omega
  have h2 : PQ x y * (PQ x y + (x - 1024) * 4096 - 4194304) ≤ 0 := by
    have e : PQ x y * (PQ x y + (x - 1024) * 4096 - 4194304) = PC x y - (x - 1024) * (x - 1024) * 4194304 := by unfold PC PQ; grind
    rw [e]; omega
  have h3 : PQ x y + (x - 1024) * 4096 ≤ 4194304 := by
    by_cases h0 : PQ x y = 0
    · have : (x - 1024) * (x - 1024) = 0 := by unfold PQ at h0; omega
      have : x - 1024 = 0 := by rcases Int.mul_eq_zero.1 this with h | h <;> exact h
      omega
    · apply Int.le_of_not_gt
      intro hc
      have := Int.mul_pos (a := PQ x y) (b := PQ x y + (x - 1024) * 4096 - 4194304) (by omega) (by omega)
      omega
  have e : (x - 1024 + 2048) * (x - 1024 + 2048) + y * y = PQ x y + (x - 1024) * 4096 + 4194304 := by unfold PQ; grind
  have s1 := sq_lt (x := x - 1024 + 2048) (K := 2900) (M := 8388608) (by omega) (by decide) (by decide)
  have s2 := sq_lt (x := y) (K := 2900) (M := 8388608) (by have := sq_nn (x - 1024 + 2048); omega) (by decide) (by decide)
  omega
theorem pd_rng {x y : Int} (h : PD x y ≤ 0) : -5121 < x ∧ x < -3071 ∧ -1025 < y ∧ y < 1025 := by
  unfold PD at h
  have hy := sq_nn y
  have hu := sq_nn (x + 4096)
  have s1 := sq_lt (x := x + 4096) (K := 1025) (M := 1048576) (by omega) (by decide) (by decide)
  have s2 := sq_lt (x := y) (K := 1025) (M := 1048576) (by omega) (by decide) (by decide)
  omega
theorem cell_of {px py : Int} (h : PC px py ≤ 0 ∨ PD px py ≤ 0) : ∃ x' y' g' : Int, x' ≤ px ∧ px < x' + g' ∧ y' ≤ py ∧ py < y' + g' ∧ cellOk x' y' g' = true := by
  have hr : -5121 < px ∧ px < 1900 ∧ -2900 < py ∧ py < 2900 := by
    rcases h with h | h
    · have := pc_rng h; omega
    · have := pd_rng h; omega
  obtain ⟨i, hi⟩ : ∃ i : Nat, (i : Int) = (px + 5120) / 256 := ⟨((px + 5120) / 256).toNat, by omega⟩
  obtain ⟨j, hj⟩ : ∃ j : Nat, (j : Int) = (py + 3072) / 256 := ⟨((py + 3072) / 256).toNat, by omega⟩
  have hall := List.all_eq_true.1 rowC_all i (List.mem_range.2 (by omega))
  have hall := List.all_eq_true.1 hall j (List.mem_range.2 (by omega))
  exact okC_spec 2 _ _ _ (by decide) hall px py (by omega) (by omega) (by omega) (by omega) h
end Go.Proofs.Ythggppjdapmgdaa
/- Exact numbers in the cardioid and the disc do not leave: the orbit's length, and the end. Plain Lean. -/
namespace Go.Proofs.Ythggppjdapmgdaa
set_option linter.unusedSimpArgs false
set_option linter.unusedVariables false
/-- The coarse number at an exact number's foot lies in the box, coarsely. -/
theorem foot {a b r s : Int} (h1 : a * 2 ^ s.toNat ≤ r * 16777216) (h2 : r * 16777216 ≤ b * 2 ^ s.toNat) : fl a 4096 ≤ r * 4096 / 2 ^ s.toNat ∧ r * 4096 / 2 ^ s.toNat ≤ ce b 4096 := by
  have hP := pos2 s.toNat
  generalize (2 : Int) ^ s.toNat = P at *
  have hx := Int.ediv_mul_le (r * 4096) (b := P) (by omega)
  have hf : fl a 4096 * 4096 ≤ a := by unfold fl; omega
  have hc : b ≤ ce b 4096 * 4096 := by unfold ce; omega
  constructor
  · apply Int.le_ediv_of_mul_le hP
    have := Int.mul_le_mul_of_nonneg_right hf (Int.le_of_lt hP)
    have e : fl a 4096 * 4096 * P = fl a 4096 * P * 4096 := by rw [Int.mul_assoc, Int.mul_comm 4096, ← Int.mul_assoc]
    omega
  · generalize hq : r * 4096 / P = q at *
    apply Int.le_of_lt_add_one
    apply Int.lt_of_mul_lt_mul_right (a := P) _ (Int.le_of_lt hP)
    have := Int.mul_le_mul_of_nonneg_right hc (Int.le_of_lt hP)
    have e : ce b 4096 * 4096 * P = ce b 4096 * P * 4096 := by rw [Int.mul_assoc, Int.mul_comm 4096, ← Int.mul_assoc]
    have e2 : (ce b 4096 + 1) * P = ce b 4096 * P + P := by rw [Int.add_mul, Int.one_mul]
    omega
theorem foot_in {r s x g : Int} (h1 : x ≤ r * 4096 / 2 ^ s.toNat) (h2 : r * 4096 / 2 ^ s.toNat < x + g) : 4096 * x * 2 ^ s.toNat ≤ r * 16777216 ∧ r * 16777216 ≤ 4096 * (x + g) * 2 ^ s.toNat := by
  have hP := pos2 s.toNat
  generalize (2 : Int) ^ s.toNat = P at *
  have hx := Int.ediv_mul_le (r * 4096) (b := P) (by omega)
  have hy := Int.lt_ediv_add_one_mul_self (r * 4096) hP
  generalize r * 4096 / P = q at *
  have a1 := Int.mul_le_mul_of_nonneg_right h1 (Int.le_of_lt hP)
  have a2 := Int.mul_le_mul_of_nonneg_right (show q + 1 ≤ x + g by omega) (Int.le_of_lt hP)
  have e1 : 4096 * x * P = x * P * 4096 := by rw [Int.mul_comm 4096, Int.mul_assoc, Int.mul_comm 4096, ← Int.mul_assoc]
  have e2 : 4096 * (x + g) * P = (x + g) * P * 4096 := by rw [Int.mul_comm 4096, Int.mul_assoc, Int.mul_comm 4096, ← Int.mul_assoc]
  omega
theorem feet {a b c d r i s : Int} (h : BH a b c d r i s = true) (hc : CBD a b c d ≤ 0 ∨ DBD a b c d ≤ 0) : PC (r * 4096 / 2 ^ s.toNat) (i * 4096 / 2 ^ s.toNat) ≤ 0 ∨ PD (r * 4096 / 2 ^ s.toNat) (i * 4096 / 2 ^ s.toNat) ≤ 0 := by
  obtain ⟨v1, v2, x1, x2, y1, y2⟩ := (BH_iff _ _ _ _ _ _ _).1 h
  obtain ⟨f1, f2⟩ := foot x1 x2
  obtain ⟨g1, g2⟩ := foot y1 y2
  rcases hc with hc | hc
  · left
    rw [← PC_eq]
    rw [← CBD_co] at hc
    exact Int.le_trans (CBD_mono (by omega) (by omega) (by omega) (by omega) (by omega) (by omega)) hc
  · right
    rw [← PD_eq]
    rw [← DBD_co] at hc
    exact Int.le_trans (DBD_mono (by omega) (by omega) (by omega) (by omega) (by omega) (by omega)) hc
/-- The first numbers of the orbit. -/
theorem stay7 {a b c d r i s : Int} (h : BH a b c d r i s = true) (hc : CBD a b c d ≤ 0 ∨ DBD a b c d ≤ 0) (k : Nat) (hk : k ≤ 7) (ho : ∀ j, j < k → ook r i s j = true) : NM (oz r i s k).1 (oz r i s k).2.1 (oz r i s k).2.2 ≤ 0 := by
  obtain ⟨x, y, g, h1, h2, k1, k2, hok⟩ := cell_of (feet h hc)
  obtain ⟨v1, v2, -⟩ := (BH_iff _ _ _ _ _ _ _).1 h
  have hg := gdo_spec _ _ _ _ 7 0 hok
  have hbv : BV (4096 * x) (4096 * (x + g)) (4096 * y) (4096 * (y + g)) = true := by
    unfold cellOk gdo at hok
    simp only [Bool.and_eq_true] at hok
    have := hok.2.2.1
    unfold ADB at this
    simp only [Bool.and_eq_true] at this
    exact this.1.2
  obtain ⟨p1, p2⟩ := foot_in h1 h2
  obtain ⟨p3, p4⟩ := foot_in k1 k2
  have hK : BH (4096 * x) (4096 * (x + g)) (4096 * y) (4096 * (y + g)) r i s = true := (BH_iff _ _ _ _ _ _ _).2 ⟨hbv, v2, p1, p2, p3, p4⟩
  obtain ⟨q1, q2⟩ := hg k hk
  rw [Nat.zero_add] at q2
  have hi := oz_in hK k ho (fun j hj => q1 j (by omega) (by omega))
  rcases (norm_in hi).1 with h | h <;> omega
/-! ### The orbit's length -/
def Mx (x y : Int) : Prop := (x % 2 = 1 ∧ y % 2 = 0) ∨ (x % 2 = 0 ∧ y % 2 = 1)
theorem l_halt {x y t : Int} (h : ¬ (x % 2 = 0 ∧ y % 2 = 0)) (ht : 0 ≤ t) : lR x y t = x ∧ lI x y t = y ∧ lS x y t = t := by
  unfold lR lI lS
  rw [low_stop _ _ _ h]
  exact ⟨rfl, rfl, by show ((t.toNat : Nat) : Int) = t; omega⟩
theorem Mx_sq {x y : Int} (h : Mx x y) : SR x y % 2 = 1 ∧ SI x y % 2 = 0 := by
  unfold Mx at h; unfold SR SI
  constructor
  · have e1 := Int.mul_emod x x 2
    have e2 := Int.mul_emod y y 2
    rcases h with ⟨h1, h2⟩ | ⟨h1, h2⟩ <;> rw [h1] at e1 <;> rw [h2] at e2 <;> omega
  · rw [Int.mul_assoc]; omega
theorem Mx_step {r i s : Int} {k : Nat} {t : Int} (hs : s ≤ t) (h0 : 0 ≤ s) (ht : 1 ≤ t) (hm : Mx (oz r i s k).1 (oz r i s k).2.1) (he : (oz r i s k).2.2 = t) (ho : ook r i s k = true) : Mx (oz r i s (k + 1)).1 (oz r i s (k + 1)).2.1 ∧ (oz r i s (k + 1)).2.2 = 2 * t := by
  unfold ook at ho
  rw [Bool.and_eq_true] at ho
  obtain ⟨o1, o2⟩ := ho
  rw [he] at o1
  obtain ⟨m1, m2⟩ := Mx_sq hm
  obtain ⟨l1, l2, l3⟩ := l_halt (x := SR (oz r i s k).1 (oz r i s k).2.1) (y := SI (oz r i s k).1 (oz r i s k).2.1) (t := 2 * t) (by omega) (by omega)
  have d0 : dq0 (oz r i s k).1 (oz r i s k).2.1 (oz r i s k).2.2 = SR (oz r i s k).1 (oz r i s k).2.1 := by rw [he]; exact (if_pos o1).trans l1
  have d1 : dq1 (oz r i s k).1 (oz r i s k).2.1 (oz r i s k).2.2 = SI (oz r i s k).1 (oz r i s k).2.1 := by rw [he]; exact (if_pos o1).trans l2
  have d2 : dq2 (oz r i s k).1 (oz r i s k).2.1 (oz r i s k).2.2 = 2 * t := by rw [he]; exact (if_pos o1).trans l3
  rw [d0, d1, d2] at o2
  generalize hX : SR (oz r i s k).1 (oz r i s k).2.1 = X at *
  generalize hY : SI (oz r i s k).1 (oz r i s k).2.1 = Y at *
  have ex : (2 * t - s).toNat = (2 * t - s - 1).toNat + 1 := by omega
  have a1 : AP X (2 * t) r s = X + r * 2 ^ (2 * t - s - 1).toNat * 2 := by rw [AP_ge _ _ _ _ (by omega), ex, Int.pow_succ, Int.mul_assoc]
  have a2 : AP Y (2 * t) i s = Y + i * 2 ^ (2 * t - s - 1).toNat * 2 := by rw [AP_ge _ _ _ _ (by omega), ex, Int.pow_succ, Int.mul_assoc]
  obtain ⟨n1, n2, n3⟩ := l_halt (x := AP X (2 * t) r s) (y := AP Y (2 * t) i s) (t := max (2 * t) s) (by omega) (by omega)
  have z0 : (oz r i s (k + 1)).1 = AP X (2 * t) r s := by show da0 _ _ _ _ _ _ = _; rw [d0, d1, d2]; exact (if_pos o2).trans n1
  have z1 : (oz r i s (k + 1)).2.1 = AP Y (2 * t) i s := by show da1 _ _ _ _ _ _ = _; rw [d0, d1, d2]; exact (if_pos o2).trans n2
  have z2 : (oz r i s (k + 1)).2.2 = max (2 * t) s := by show da2 _ _ _ _ _ _ = _; rw [d0, d1, d2]; exact (if_pos o2).trans n3
  rw [z0, z1, z2]
  refine ⟨Or.inl ?_, by omega⟩
  omega
/-- The first number is the parameter. -/
theorem oz_1 {r i s : Int} (hd : DV r i s = true) (ho : ook r i s 0 = true) : oz r i s 1 = (r, i, s) := by
  obtain ⟨-, -, -, -, h5, h6, h7⟩ := (DV_iff _ _ _).1 hd
  unfold ook at ho
  rw [Bool.and_eq_true] at ho
  obtain ⟨o1, o2⟩ := ho
  have d0 : dq0 (oz r i s 0).1 (oz r i s 0).2.1 (oz r i s 0).2.2 = 0 := show dq0 0 0 0 = 0 by decide
  have d1 : dq1 (oz r i s 0).1 (oz r i s 0).2.1 (oz r i s 0).2.2 = 0 := show dq1 0 0 0 = 0 by decide
  have d2 : dq2 (oz r i s 0).1 (oz r i s 0).2.1 (oz r i s 0).2.2 = 0 := show dq2 0 0 0 = 0 by decide
  rw [d0, d1, d2] at o2
  have a1 : ∀ x : Int, AP 0 0 x s = x := fun x => by
    unfold AP
    rw [Int.zero_mul, Int.zero_add, show (max 0 s - s).toNat = 0 by omega, Int.pow_zero, Int.mul_one]
  have n : lR r i (max 0 s) = r ∧ lI r i (max 0 s) = i ∧ lS r i (max 0 s) = s := by
    rw [show max 0 s = s by omega]
    by_cases hs : s = 0
    · subst hs
      exact ⟨rfl, rfl, rfl⟩
    · exact l_halt (by omega) (by omega)
  have z0 : (oz r i s 1).1 = r := by show da0 _ _ _ _ _ _ = _; rw [d0, d1, d2]; refine (if_pos o2).trans ?_; rw [a1, a1]; exact n.1
  have z1 : (oz r i s 1).2.1 = i := by show da1 _ _ _ _ _ _ = _; rw [d0, d1, d2]; refine (if_pos o2).trans ?_; rw [a1, a1]; exact n.2.1
  have z2 : (oz r i s 1).2.2 = s := by show da2 _ _ _ _ _ _ = _; rw [d0, d1, d2]; refine (if_pos o2).trans ?_; rw [a1, a1]; exact n.2.2
  exact Prod.ext z0 (Prod.ext z1 z2)
/-- Behind two odd parts. -/
theorem Mx_2 {r i s : Int} (hd : DV r i s = true) (hs : 1 ≤ s) (hr : r % 2 = 1) (hi : i % 2 = 1) (e1 : oz r i s 1 = (r, i, s)) (ho : ook r i s 1 = true) : Mx (oz r i s 2).1 (oz r i s 2).2.1 ∧ (oz r i s 2).2.2 = 2 * s - 1 := by
  unfold ook at ho
  rw [Bool.and_eq_true, e1] at ho
  obtain ⟨o1, o2⟩ := ho
  have o1 : SQ r i s = true := o1
  obtain ⟨p, hp⟩ : ∃ p, r = 2 * p + 1 := ⟨r / 2, by omega⟩
  obtain ⟨q, hq⟩ : ∃ q, i = 2 * q + 1 := ⟨i / 2, by omega⟩
  have s1 : SR r i = 2 * (2 * (p * p + p - q * q - q)) := by unfold SR; rw [hp, hq]; grind
  have s2 : SI r i = 2 * (2 * (2 * p * q + p + q) + 1) := by unfold SI; rw [hp, hq]; grind
  obtain ⟨l1, l2, l3⟩ := l_step (SR r i) (SI r i) (2 * s) (by omega) (by omega) (by omega)
  rw [show SR r i / 2 = 2 * (p * p + p - q * q - q) by omega, show SI r i / 2 = 2 * (2 * p * q + p + q) + 1 by omega] at l1 l2 l3
  generalize hX : 2 * (p * p + p - q * q - q) = X at *
  have hXe : X % 2 = 0 := by omega
  generalize hY : 2 * (2 * p * q + p + q) + 1 = Y at *
  have hYe : Y % 2 = 1 := by omega
  obtain ⟨t1, t2, t3⟩ := l_halt (x := X) (y := Y) (t := 2 * s - 1) (by omega) (by omega)
  have d0 : dq0 (oz r i s 1).1 (oz r i s 1).2.1 (oz r i s 1).2.2 = X := by rw [e1]; exact (if_pos o1).trans (l1.trans t1)
  have d1 : dq1 (oz r i s 1).1 (oz r i s 1).2.1 (oz r i s 1).2.2 = Y := by rw [e1]; exact (if_pos o1).trans (l2.trans t2)
  have d2 : dq2 (oz r i s 1).1 (oz r i s 1).2.1 (oz r i s 1).2.2 = 2 * s - 1 := by rw [e1]; exact (if_pos o1).trans (l3.trans t3)
  rw [e1] at d0 d1 d2
  rw [d0, d1, d2] at o2
  have par : ((X + r * 2 ^ (2 * s - 1 - s).toNat) % 2 = 0 ∧ (Y + i * 2 ^ (2 * s - 1 - s).toNat) % 2 = 1) ∨ ((X + r * 2 ^ (2 * s - 1 - s).toNat) % 2 = 1 ∧ (Y + i * 2 ^ (2 * s - 1 - s).toNat) % 2 = 0) := by
    by_cases h1 : s = 1
    · right; subst h1
      rw [show ((2 : Int) * 1 - 1 - 1).toNat = 0 by decide, Int.pow_zero]; omega
    · left
      rw [show (2 * s - 1 - s).toNat = (s - 2).toNat + 1 by omega, Int.pow_succ, ← Int.mul_assoc, ← Int.mul_assoc]; omega
  have a1 : AP X (2 * s - 1) r s = X + r * 2 ^ (2 * s - 1 - s).toNat := AP_ge _ _ _ _ (by omega)
  have a2 : AP Y (2 * s - 1) i s = Y + i * 2 ^ (2 * s - 1 - s).toNat := AP_ge _ _ _ _ (by omega)
  obtain ⟨n1, n2, n3⟩ := l_halt (x := AP X (2 * s - 1) r s) (y := AP Y (2 * s - 1) i s) (t := max (2 * s - 1) s) (by omega) (by omega)
  have z0 : (oz r i s 2).1 = AP X (2 * s - 1) r s := by show da0 _ _ _ _ _ _ = _; rw [e1, d0, d1, d2]; exact (if_pos o2).trans n1
  have z1 : (oz r i s 2).2.1 = AP Y (2 * s - 1) i s := by show da1 _ _ _ _ _ _ = _; rw [e1, d0, d1, d2]; exact (if_pos o2).trans n2
  have z2 : (oz r i s 2).2.2 = max (2 * s - 1) s := by show da2 _ _ _ _ _ _ = _; rw [e1, d0, d1, d2]; exact (if_pos o2).trans n3
  rw [z0, z1, z2]
  refine ⟨?_, by omega⟩
  unfold Mx
  omega
theorem short {r i s : Int} (hd : DV r i s = true) (hs : 1 ≤ s) (k : Nat) (ho : ∀ j, j < k → ook r i s j = true) : k ≤ 7 := by
  apply Nat.le_of_not_lt
  intro hk
  obtain ⟨-, -, -, -, h5, h6, h7⟩ := (DV_iff _ _ _).1 hd
  have e1 := oz_1 hd (ho 0 (by omega))
  have m2 : ∃ t, s ≤ t ∧ 1 ≤ t ∧ Mx (oz r i s 2).1 (oz r i s 2).2.1 ∧ (oz r i s 2).2.2 = t := by
    by_cases hb : r % 2 = 1 ∧ i % 2 = 1
    · obtain ⟨m, e⟩ := Mx_2 hd hs hb.1 hb.2 e1 (ho 1 (by omega))
      exact ⟨_, by omega, by omega, m, e⟩
    · have hm : Mx (oz r i s 1).1 (oz r i s 1).2.1 := by rw [e1]; show Mx r i; unfold Mx; omega
      obtain ⟨m, e⟩ := Mx_step (k := 1) (Int.le_refl s) (by omega) hs hm (by rw [e1]) (ho 1 (by omega))
      exact ⟨_, by omega, by omega, m, e⟩
  obtain ⟨t, t1, t2, m2, e2⟩ := m2
  obtain ⟨m3, e3⟩ := Mx_step t1 h5 t2 m2 e2 (ho 2 (by omega))
  obtain ⟨m4, e4⟩ := Mx_step (t := 2 * t) (by omega) h5 (by omega) m3 e3 (ho 3 (by omega))
  obtain ⟨m5, e5⟩ := Mx_step (t := 2 * (2 * t)) (by omega) h5 (by omega) m4 e4 (ho 4 (by omega))
  obtain ⟨m6, e6⟩ := Mx_step (t := 2 * (2 * (2 * t))) (by omega) h5 (by omega) m5 e5 (ho 5 (by omega))
  obtain ⟨m7, e7⟩ := Mx_step (t := 2 * (2 * (2 * (2 * t)))) (by omega) h5 (by omega) m6 e6 (ho 6 (by omega))
  obtain ⟨m8, e8⟩ := Mx_step (t := 2 * (2 * (2 * (2 * (2 * t))))) (by omega) h5 (by omega) m7 e7 (ho 7 (by omega))
  have := oz_dv r i s 8
  obtain ⟨-, -, -, -, -, g6, -⟩ := (DV_iff _ _ _).1 this
  rw [show (2 + 1 + 1 + 1 + 1 + 1 + 1 : Nat) = 8 from rfl] at e8
  omega
/-- The numbers without a shift. -/
theorem oz_0 : ∀ k : Nat, oz 0 0 0 k = (0, 0, 0)
  | 0 => rfl
  | k + 1 => by unfold oz; rw [oz_0 k]; decide
theorem oz_m1 : ∀ k : Nat, oz (-1) 0 0 k = (0, 0, 0) ∨ oz (-1) 0 0 k = (-1, 0, 0)
  | 0 => Or.inl rfl
  | k + 1 => by
    unfold oz
    rcases oz_m1 k with h | h
    · right; rw [h]; decide
    · left; rw [h]; decide
/-- Exact numbers in the cardioid or in the disc do not leave. -/
theorem stay {a b c d r i s : Int} (h : BH a b c d r i s = true) (hc : CBD a b c d ≤ 0 ∨ DBD a b c d ≤ 0) (k : Nat) (ho : ∀ j, j < k → ook r i s j = true) : NM (oz r i s k).1 (oz r i s k).2.1 (oz r i s k).2.2 ≤ 0 := by
  obtain ⟨v1, v2, -⟩ := (BH_iff _ _ _ _ _ _ _).1 h
  obtain ⟨-, -, -, -, h5, h6, h7⟩ := (DV_iff _ _ _).1 v2
  by_cases hs : 1 ≤ s
  · exact stay7 h hc k (short v2 hs k ho) ho
  · obtain rfl : s = 0 := by omega
    have hf := feet h hc
    rw [show ((0 : Int).toNat) = 0 from rfl, Int.pow_zero, Int.ediv_one, Int.ediv_one] at hf
    have hr : (r = 0 ∧ i = 0) ∨ (r = -1 ∧ i = 0) := by
      rcases hf with hf | hf
      · have := pc_rng hf; omega
      · have := pd_rng hf; omega
    rcases hr with ⟨rfl, rfl⟩ | ⟨rfl, rfl⟩
    · rw [oz_0]; decide
    · rcases oz_m1 k with h | h <;> rw [h] <;> decide
end Go.Proofs.Ythggppjdapmgdaa
/- States of boxes: more steps, and mirrored boxes. Plain Lean. -/
namespace Go.Proofs.Ythggppjdapmgdaa
set_option linter.unusedSimpArgs false
set_option linter.unusedVariables false
theorem esc_mono {m m' : Int} (h : lst m ≤ lst m') (a b c d : Int) : ∀ (n : Nat) (f k z0 z1 z2 z3 : Int), 0 ≤ (esc m a b c d n f k z0 z1 z2 z3).2.2 → 0 ≤ (esc m' a b c d n f k z0 z1 z2 z3).2.2
  | 0, _, _, _, _, _, _, h0 => absurd (show (0 : Int) ≤ -1 from h0) (by decide)
  | n + 1, f, k, z0, z1, z2, z3, h0 => by
    unfold esc at h0 ⊢
    by_cases hk : k ≤ lst m
    · rw [if_pos hk] at h0
      rw [if_pos (show k ≤ lst m' by omega)]
      split
      · rename_i hg; rw [if_pos hg] at h0; exact h0
      · rename_i hg
        rw [if_neg hg] at h0
        split
        · rename_i hq; rw [if_pos hq] at h0; exact esc_mono h a b c d n _ _ _ _ _ _ h0
        · rename_i hq; rw [if_neg hq] at h0; exact h0
    · rw [if_neg hk] at h0
      exact absurd (show (0 : Int) ≤ -1 from h0) (by decide)
theorem CST_mono {m m' : Int} (h : m ≤ m') (a b c d : Int) (h0 : CST a b c d m ≠ 0) : CST a b c d m' = CST a b c d m := by
  unfold CST at h0 ⊢
  split
  · rfl
  · rename_i hc
    rw [if_neg hc] at h0
    split at h0
    · rename_i hw
      have : 0 ≤ escW a b c d m' := esc_mono (m := m) (m' := m') (by unfold lst; omega) a b c d 402 (-1) 0 0 0 0 0 hw
      rw [if_pos this, if_pos hw]
    · exact absurd rfl h0
/-! ### Mirrored -/
theorem sqLo_cj (l h : Int) : sqLo (-h) (-l) = sqLo l h := by
  unfold sqLo
  rw [Int.neg_mul_neg, Int.neg_mul_neg]
  split <;> split <;> omega
theorem sqHi_cj (l h : Int) : sqHi (-h) (-l) = sqHi l h := by
  unfold sqHi
  rw [Int.neg_mul_neg, Int.neg_mul_neg]; omega
theorem mulLo_cj (a b c d : Int) : mulLo a b (-d) (-c) = -mulHi a b c d := by
  unfold mulLo mulHi
  simp only [Int.mul_neg]; omega
theorem mulHi_cj (a b c d : Int) : mulHi a b (-d) (-c) = -mulLo a b c d := by
  unfold mulLo mulHi
  simp only [Int.mul_neg]; omega
theorem BV_cj (a b c d : Int) : BV a b (-d) (-c) = BV a b c d := by
  rw [Bool.eq_iff_iff, BV_iff, BV_iff]; omega
theorem sq0_cj (a b c d : Int) : sq0 a b (-d) (-c) = sq0 a b c d := by unfold sq0; rw [sqHi_cj]
theorem sq1_cj (a b c d : Int) : sq1 a b (-d) (-c) = sq1 a b c d := by unfold sq1; rw [sqLo_cj]
theorem sq2_cj (a b c d : Int) : sq2 a b (-d) (-c) = -sq3 a b c d := by unfold sq2 sq3 fl ce; rw [mulLo_cj, Int.mul_neg, Int.neg_neg]
theorem sq3_cj (a b c d : Int) : sq3 a b (-d) (-c) = -sq2 a b c d := by unfold sq2 sq3 fl ce; rw [mulHi_cj, Int.mul_neg, Int.neg_neg]
theorem SQB_cj (a b c d : Int) : SQB a b (-d) (-c) = SQB a b c d := by unfold SQB; rw [BV_cj, sq0_cj, sq1_cj, sq2_cj, sq3_cj, BV_cj]
theorem ADB_cj (a b c d x y z u : Int) : ADB a b (-d) (-c) x y (-u) (-z) = ADB a b c d x y z u := by
  unfold ADB
  rw [BV_cj, BV_cj, ← Int.neg_add, ← Int.neg_add, BV_cj]
theorem qq0_cj (a b c d : Int) : qq0 a b (-d) (-c) = qq0 a b c d := by unfold qq0; rw [SQB_cj, sq0_cj]
theorem qq1_cj (a b c d : Int) : qq1 a b (-d) (-c) = qq1 a b c d := by unfold qq1; rw [SQB_cj, sq1_cj]
theorem qq2_cj (a b c d : Int) : qq2 a b (-d) (-c) = -qq3 a b c d := by unfold qq2 qq3; rw [SQB_cj, sq2_cj]; split <;> rfl
theorem qq3_cj (a b c d : Int) : qq3 a b (-d) (-c) = -qq2 a b c d := by unfold qq2 qq3; rw [SQB_cj, sq3_cj]; split <;> rfl
theorem aa0_cj (a b c d x y z u : Int) : aa0 a b (-d) (-c) x y (-u) (-z) = aa0 a b c d x y z u := by unfold aa0; rw [ADB_cj]
theorem aa1_cj (a b c d x y z u : Int) : aa1 a b (-d) (-c) x y (-u) (-z) = aa1 a b c d x y z u := by unfold aa1; rw [ADB_cj]
theorem aa2_cj (a b c d x y z u : Int) : aa2 a b (-d) (-c) x y (-u) (-z) = -aa3 a b c d x y z u := by unfold aa2 aa3; rw [ADB_cj]; split <;> omega
theorem aa3_cj (a b c d x y z u : Int) : aa3 a b (-d) (-c) x y (-u) (-z) = -aa2 a b c d x y z u := by unfold aa2 aa3; rw [ADB_cj]; split <;> omega
theorem nlo_cj (a b c d : Int) : nlo a b (-d) (-c) = nlo a b c d := by unfold nlo NLo; rw [BV_cj, sqLo_cj c d]
theorem nhi_cj (a b c d : Int) : nhi a b (-d) (-c) = nhi a b c d := by unfold nhi NHi; rw [BV_cj, sqHi_cj c d]
theorem esc_cj (m a b c d : Int) : ∀ (n : Nat) (f k z0 z1 z2 z3 : Int), esc m a b (-d) (-c) n f k z0 z1 (-z3) (-z2) = esc m a b c d n f k z0 z1 z2 z3
  | 0, _, _, _, _, _, _ => rfl
  | n + 1, f, k, z0, z1, z2, z3 => by
    unfold esc
    rw [nlo_cj, nhi_cj, SQB_cj, qq0_cj, qq1_cj, qq2_cj, qq3_cj, ADB_cj, aa0_cj, aa1_cj, aa2_cj, aa3_cj, esc_cj m a b c d n]
theorem CST_cj (a b c d m : Int) : CST a b (-d) (-c) m = CST a b c d m := by
  unfold CST escW
  rw [CBD_mirror, DBD_mirror]
  have := esc_cj m a b c d 402 (-1) 0 0 0 0 0
  rw [show (-0 : Int) = 0 from rfl] at this
  rw [this]
theorem FLq_cj (i s : Int) : FLq (-i) s = -CEq i s := by unfold FLq CEq; rw [Int.neg_mul, Int.neg_neg]
theorem CEq_cj (i s : Int) : CEq (-i) s = -FLq i s := by unfold FLq CEq; rw [Int.neg_mul, Int.neg_neg]
theorem DV_cj (r i s : Int) : DV r (-i) s = DV r i s := by
  rw [Bool.eq_iff_iff, DV_iff, DV_iff]; omega
/-- The state of a mirrored number. -/
theorem DST_cj (r i s m : Int) : (if DV r (-i) s then (if BV (FLq r s) (CEq r s) (FLq (-i) s) (CEq (-i) s) then CST (FLq r s) (CEq r s) (FLq (-i) s) (CEq (-i) s) m else 0) else 0) = (if DV r i s then (if BV (FLq r s) (CEq r s) (FLq i s) (CEq i s) then CST (FLq r s) (CEq r s) (FLq i s) (CEq i s) m else 0) else 0) := by
  rw [DV_cj, FLq_cj, CEq_cj, BV_cj, CST_cj]
end Go.Proofs.Ythggppjdapmgdaa
