/- Words of exact numbers: their sums, products and orders. No program in sight. -/
import Derived.Test.YtgnkjfafgcbpbaaDoorFl2
namespace Go.Proofs.YtgnkjfafgcbpbaaDoor.Fl
set_option linter.unusedSimpArgs false
set_option linter.unusedVariables false
open Ieee
theorem pow_ne (k : Nat) : (2 : Int) ^ k ≠ 0 := by have : (0 : Int) < 2 ^ k := Int.pow_pos (by decide); omega
theorem natAbs_mul_pow (a : Int) (k : Nat) : (a * 2 ^ k).natAbs = a.natAbs * 2 ^ k := by rw [Int.natAbs_mul, Int.natAbs_pow]; rfl
/-- A number with few digits is there. -/
theorem rep_of {f : Format} {a : Int} {k : Nat} {b : Nat} (h : a.natAbs < 2 ^ b) (hb : b ≤ f.fractionBits + 1) (hk : b + k ≤ 2 ^ f.exponentBits + f.fractionBits - 2) : Rep f (a * 2 ^ k).natAbs := by
  rw [natAbs_mul_pow]
  exact ⟨⟨a.natAbs, k, rfl, Nat.lt_of_lt_of_le h (Nat.pow_le_pow_right (by decide) hb)⟩, mul_pow_lt h hk⟩
theorem rep_dbl {a : Int} {k : Nat} (h : a.natAbs < 9007199254740992) (hk : k ≤ 2000) : Rep double (a * 2 ^ k).natAbs :=
  rep_of (b := 53) h (by decide) (Nat.le_trans (Nat.add_le_add_left hk 53) (by decide))
/-- A word that stands for the same number is equal. -/
theorem V_eq {f : Format} {x y : Nat} {v : Int} (hx : V f x v) (hy : V f y v) : f.order x y = some .eq := by
  rw [V_order hx hy, Int.compare_eq_eq.2 rfl]
/-- Sums of words of exact numbers. -/
theorem dw_add {r x R : Int} {s t S m : Nat} (hr : r.natAbs < 9007199254740992) (hx : x.natAbs < 9007199254740992) (hR : R.natAbs < 9007199254740992) (hs : s ≤ 500) (ht : t ≤ 500) (hS : S + m = max s t)
    (h : r * 2 ^ (max s t - s) + x * 2 ^ (max s t - t) = R * 2 ^ m) : ∃ q, double.add (DWn r s) (DWn x t) = some q ∧ V double q (R * 2 ^ (1074 - S)) := by
  have v1 := V_DWn hr (show s ≤ 1000 by omega)
  have v2 := V_DWn hx (show t ≤ 1000 by omega)
  have e : r * 2 ^ (1074 - s) + x * 2 ^ (1074 - t) = R * 2 ^ (1074 - S) := by
    obtain ⟨k, hk⟩ : ∃ k, 1074 - max s t = k := ⟨_, rfl⟩
    rw [show 1074 - s = (max s t - s) + k by omega, show 1074 - t = (max s t - t) + k by omega, show 1074 - S = m + k by omega, Int.pow_add, Int.pow_add, Int.pow_add, ← Int.mul_assoc, ← Int.mul_assoc, ← Int.mul_assoc, ← Int.add_mul, h]
  obtain ⟨q, h1, h2⟩ := V_add std v1 v2 (by rw [e]; exact rep_dbl hR (by omega))
  rw [e] at h2
  exact ⟨q, h1, h2⟩
end Go.Proofs.YtgnkjfafgcbpbaaDoor.Fl
