/- Finite words of float64 numbers, small ones too. No program in sight. -/
import Derived.Test.YtgnkjfafgcbpbaaDoorFl4
namespace Go.Proofs.YtgnkjfafgcbpbaaDoor.Fl
set_option linter.unusedSimpArgs false
set_option linter.unusedVariables false
open Ieee
theorem read_sub {b : Nat} (hb : b < 18446744073709551616) (h : fld b = 0) : double.read b = .number (neg b) (b % 4503599627370496) (-1074) := by
  obtain ⟨h1, h2, h3, h4, h5⟩ := dbl_facts
  unfold Format.read
  simp only [h1, h2, h3, h4]
  unfold fld at h
  rw [if_pos (by omega)]
  have e1 : (b / 9223372036854775808 % 2 == 1) = neg b := by
    unfold neg; rw [Nat.mod_eq_of_lt (by omega)]
  rw [e1]
  have e2 : b % 9223372036854775808 = b % 4503599627370496 := by omega
  rw [e2]
theorem V_sub0 {b : Nat} (hb : b < 18446744073709551616) (h : fld b = 0) : V double b (sg (neg b) (b % 4503599627370496)) := by
  refine ⟨_, _, _, read_sub hb h, by decide, ?_⟩
  rw [show ((-1074 : Int) - double.leastPlace).toNat = 0 by decide, Nat.pow_zero, Nat.mul_one]
/-- Any finite word: its number, and a bound of it. -/
theorem V_fin {b : Nat} (hb : b < 18446744073709551616) (h : fld b ≤ 2046) : ∃ v, V double b v ∧ ∀ K, 2045 ≤ K → v.natAbs ≤ 9007199254740991 * 2 ^ K := by
  by_cases h0 : fld b = 0
  · refine ⟨_, V_sub0 hb h0, fun K hK => ?_⟩
    rw [sg_natAbs]
    have : b % 4503599627370496 * 2 ^ 0 ≤ 9007199254740991 * 2 ^ K := mul_pow_le (a := b % 4503599627370496) (b := 9007199254740991) (k := 0) (l := K) (by omega) (Nat.zero_le _)
    rwa [Nat.pow_zero, Nat.mul_one] at this
  · have hN : Nrm b := ⟨hb, by omega, h⟩
    refine ⟨_, V_nrm hN, fun K hK => ?_⟩
    unfold vN
    rw [sg_natAbs]
    exact mul_pow_le (a := mant b) (b := 9007199254740991) (k := fld b - 1) (l := K) (by unfold mant; omega) (by omega)
theorem fin_self {b : Nat} (hb : b < 18446744073709551616) (h : fld b ≤ 2046) : double.order b b = some .eq := by
  obtain ⟨v, hv, -⟩ := V_fin hb h
  exact order_self hv
theorem fin_abs {b : Nat} (hb : b < 18446744073709551616) (h : fld b ≤ 2046) : double.order (b % 9223372036854775808) 9218868437227405311 ≠ some .gt := by
  have e : fld (b % 9223372036854775808) = fld b := by unfold fld; omega
  obtain ⟨v, hv, hk⟩ := V_fin (b := b % 9223372036854775808) (by omega) (by omega)
  rw [V_order hv V_max]
  intro q
  simp only [Option.some.injEq, Int.compare_eq_gt] at q
  have := hk 2045 (by omega)
  generalize (2045 : Nat) = K at this q
  have c : (v.natAbs : Int) ≤ ((9007199254740991 * 2 ^ K : Nat) : Int) := by omega
  rw [cast_mul_pow] at c
  have c2 : v ≤ (v.natAbs : Int) := by omega
  exact absurd (Int.le_trans c2 c) (by
    show ¬ v ≤ ((9007199254740991 : Nat) : Int) * 2 ^ K
    omega)
end Go.Proofs.YtgnkjfafgcbpbaaDoor.Fl
