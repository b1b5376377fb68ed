/- Bits of a float64's word: its sign struck, its exponent's field struck and set; orders. No program in sight. -/
import Derived.Test.YtgnkjfafgcbpbaaDoorFl1
import GoSem.Core.Value
namespace Go.Proofs.YtgnkjfafgcbpbaaDoor.Fl
set_option linter.unusedSimpArgs false
set_option linter.unusedVariables false
open Ieee
theorem ofInt_nat {n : Nat} (h : n < 18446744073709551616) : (BitVec.ofInt 64 (n : Int)).toNat = n := by
  rw [BitVec.ofInt_natCast, BitVec.toNat_ofNat]; exact Nat.mod_eq_of_lt h
theorem and_mask {q : Nat} (h : q < 18446744073709551616) : (BitVec.ofInt 64 (q : Int) &&& BitVec.ofInt 64 2047).toNat = q % 2048 := by
  rw [BitVec.toNat_and, ofInt_nat h, show (BitVec.ofInt 64 2047).toNat = 2 ^ 11 - 1 by decide, Nat.and_two_pow_sub_one_eq_mod]
theorem and_not_sign {b : Nat} (h : b < 18446744073709551616) : (BitVec.ofInt 64 (b : Int) &&& ~~~BitVec.ofInt 64 9223372036854775808).toNat = b % 9223372036854775808 := by
  rw [BitVec.toNat_and, ofInt_nat h, show (~~~BitVec.ofInt 64 9223372036854775808).toNat = 2 ^ 63 - 1 by decide, Nat.and_two_pow_sub_one_eq_mod]
theorem and_top {b : Nat} (h : b < 18446744073709551616) : b &&& 2 ^ 63 = 2 ^ 63 * (b / 9223372036854775808) := by
  apply Nat.eq_of_testBit_eq
  intro i
  rw [Nat.testBit_and, Nat.testBit_two_pow, Nat.testBit_two_pow_mul]
  have hs : b / 9223372036854775808 < 2 := by omega
  by_cases hi : i = 63
  · subst hi
    simp only [Nat.testBit_eq_decide_div_mod_eq, decide_true, Bool.and_true, ge_iff_le, Nat.le_refl, Bool.true_and, Nat.sub_self, Nat.pow_zero, Nat.div_one]
  · rw [decide_eq_false (show ¬ 63 = i by omega), Bool.and_false]
    by_cases hj : 63 ≤ i
    · have : (b / 9223372036854775808).testBit (i - 63) = false := Nat.testBit_lt_two_pow (Nat.lt_of_lt_of_le hs (by
        have : 2 ^ 1 ≤ 2 ^ (i - 63) := Nat.pow_le_pow_right (by decide) (by omega)
        omega))
      rw [this, Bool.and_false]
    · rw [decide_eq_false (by omega), Bool.false_and]
theorem and_not_exp {b : Nat} (h : b < 18446744073709551616) : (BitVec.ofInt 64 (b : Int) &&& ~~~BitVec.ofInt 64 9218868437227405312).toNat = 9223372036854775808 * (b / 9223372036854775808) + b % 4503599627370496 := by
  rw [BitVec.toNat_and, ofInt_nat h, show (~~~BitVec.ofInt 64 9218868437227405312).toNat = 2 ^ 63 ||| (2 ^ 52 - 1) by decide, Nat.and_or_distrib_left, Nat.and_two_pow_sub_one_eq_mod, and_top h, ← Nat.two_pow_add_eq_or_of_lt (i := 63) (by omega)]
theorem or_exp {s F k : Nat} (hs : s ≤ 1) (hF : F < 4503599627370496) (hk : k < 2048) : (BitVec.ofInt 64 ((9223372036854775808 * s + F : Nat) : Int) ||| BitVec.ofInt 64 ((k * 4503599627370496 : Nat) : Int)).toNat = 9223372036854775808 * s + F + k * 4503599627370496 := by
  rw [BitVec.toNat_or, ofInt_nat (by omega), ofInt_nat (by omega)]
  have e1 : 9223372036854775808 * s + F = 2 ^ 63 * s ||| F := Nat.two_pow_add_eq_or_of_lt (i := 63) (by omega) s
  have e2 : F ||| k * 4503599627370496 = 2 ^ 52 * k + F := by
    rw [Nat.or_comm, show k * 4503599627370496 = 2 ^ 52 * k by omega, Nat.two_pow_add_eq_or_of_lt (i := 52) hF k]
  rw [e1, Nat.or_assoc, e2, ← Nat.two_pow_add_eq_or_of_lt (i := 63) (by omega)]
  omega
theorem abs_nrm {b : Nat} (h : Nrm b) : Nrm (b % 9223372036854775808) ∧ fld (b % 9223372036854775808) = fld b := by
  obtain ⟨a1, a2, a3⟩ := h
  have e : fld (b % 9223372036854775808) = fld b := by unfold fld; omega
  exact ⟨⟨by omega, by omega, by omega⟩, e⟩
theorem vN_pos {b : Nat} (h : Nrm b) (hn : b < 9223372036854775808) (K : Nat) (hK : fld b ≤ K + 1) : 2 ^ 52 ≤ vN b ∧ vN b ≤ 9007199254740991 * 2 ^ K := by
  have hneg : neg b = false := by unfold neg; rw [beq_eq_false_iff_ne]; omega
  have hm : mant b < 9007199254740992 := by unfold mant; omega
  have hm' : 4503599627370496 ≤ mant b := by unfold mant; omega
  unfold vN sg
  rw [hneg]
  simp only [Bool.false_eq_true, if_false]
  have hp := Nat.two_pow_pos (fld b - 1)
  have hlo := h.lo; have hhi := h.hi
  have q : mant b * 2 ^ (fld b - 1) ≤ 9007199254740991 * 2 ^ K := mul_pow_le (a := mant b) (b := 9007199254740991) (k := fld b - 1) (l := K) (by omega) (by omega)
  have q1 : 4503599627370496 * 1 ≤ mant b * 2 ^ (fld b - 1) := Nat.mul_le_mul hm' hp
  have c : ∀ x y : Nat, x ≤ y → (x : Int) ≤ y := fun x y h => by omega
  refine ⟨?_, ?_⟩
  · have := c _ _ q1; omega
  · have := c _ _ q
    rw [cast_mul_pow 9007199254740991] at this; exact this
theorem vN_ne {b : Nat} (h : Nrm b) : vN b ≠ 0 := by
  unfold vN sg
  have hm' : 4503599627370496 ≤ mant b := by unfold mant; omega
  have hp := Nat.two_pow_pos (fld b - 1)
  have q1 : 4503599627370496 * 1 ≤ mant b * 2 ^ (fld b - 1) := Nat.mul_le_mul hm' hp
  split <;> omega
theorem V_max : V double 9218868437227405311 (9007199254740991 * 2 ^ 2045) := by
  refine ⟨false, 9007199254740991, 971, by decide, by decide, ?_⟩
  unfold sg
  rw [show ((971 : Int) - double.leastPlace).toNat = 2045 by decide, if_neg (by decide)]
  generalize 2045 = k
  rw [cast_mul_pow]; rfl
theorem V_small : V double 4503599627370496 (2 ^ 52) := by
  refine ⟨false, 4503599627370496, -1074, by decide, by decide, by decide⟩
/-- Orders against bounds. -/
theorem abs_not_gt {b : Nat} (h : Nrm b) : double.order (b % 9223372036854775808) 9218868437227405311 ≠ some .gt := by
  obtain ⟨h1, h2⟩ := abs_nrm h
  rw [V_order (V_nrm h1) V_max]
  obtain ⟨-, q⟩ := vN_pos h1 (by omega) 2045 (by have := h1.hi; omega)
  intro e
  simp only [Option.some.injEq, Int.compare_eq_gt] at e
  omega
theorem abs_not_lt {b : Nat} (h : Nrm b) : double.order (b % 9223372036854775808) 4503599627370496 ≠ some .lt := by
  obtain ⟨h1, h2⟩ := abs_nrm h
  rw [V_order (V_nrm h1) V_small]
  obtain ⟨q, -⟩ := vN_pos h1 (by omega) 2045 (by have := h1.hi; omega)
  intro e
  simp only [Option.some.injEq, Int.compare_eq_lt] at e
  omega
theorem order_zero {b : Nat} (h : Nrm b) : double.order b 0 ≠ some .eq := by
  rw [V_order (V_nrm h) V_zero]
  intro e
  simp only [Option.some.injEq, Int.compare_eq_eq] at e
  exact vN_ne h e
theorem order_self {f : Format} {b : Nat} {v : Int} (h : V f b v) : f.order b b = some .eq := by
  rw [V_order h h, Int.compare_eq_eq.2 rfl]
end Go.Proofs.YtgnkjfafgcbpbaaDoor.Fl
