/- What DyadNorm, DyadSquare and DyadAdd give. -/
import Derived.Test.YtgnkjfafgcbpbaaDyW2
import Derived.Test.YtgnkjfafgcbpbaaDyM2
namespace Go.Proofs.Ytgnkjfafgcbpbaa
set_option linter.unusedSimpArgs false
set_option linter.unusedVariables false
open Go.RowKit

theorem F4_bd (s : Int) (h : 0 ≤ s) (h' : s ≤ 30) : 4 ≤ F4 s ∧ F4 s ≤ 4611686018427387904 := by
  unfold F4
  obtain ⟨n, rfl⟩ := Int.eq_ofNat_of_zero_le h
  have e : (2 * (n : Int)).toNat = 2 * n := by omega
  rw [e]
  have h1 : 2 ^ (2 * n) ≤ 2 ^ 60 := Nat.pow_le_pow_right (by omega) (by omega)
  have h2 : 0 < 2 ^ (2 * n) := Nat.two_pow_pos _
  have e2 : ((2 : Int) ^ (2 * n)) = ((2 ^ (2 * n) : Nat) : Int) := by simp
  rw [e2]
  omega
theorem F4_wrap (s : Int) (h : 0 ≤ s) (h' : s ≤ 30) : wrap64 (4 * 2 ^ (2 * s).toNat) = F4 s :=
  IntWalk.wrap64_in _ ⟨by have := F4_bd s h h'; unfold F4 at this; omega, by have := F4_bd s h h'; unfold F4 at this; omega⟩
theorem F4_30 : F4 30 = 4611686018427387904 := by decide

theorem sq_bd30 (r : Int) (h : -1073741824 ≤ r ∧ r ≤ 1073741824) : 0 ≤ r * r ∧ r * r ≤ 1152921504606846976 := by
  have h1 : r * r = (r.natAbs * r.natAbs : Nat) := by rw [Int.natAbs_mul_self]
  have h2 : r.natAbs * r.natAbs ≤ 1073741824 * 1073741824 := Nat.mul_le_mul (by omega) (by omega)
  omega



/-! ### DyadSquare -/
theorem mul_bd30 (r i : Int) (h : -1073741824 ≤ r ∧ r ≤ 1073741824) (h' : -1073741824 ≤ i ∧ i ≤ 1073741824) : -1152921504606846976 ≤ r * i ∧ r * i ≤ 1152921504606846976 := by
  have h1 : (r * i).natAbs ≤ 1073741824 * 1073741824 := by rw [Int.natAbs_mul]; exact Nat.mul_le_mul (by omega) (by omega)
  omega
theorem sq_ok (r i s : Int) (h : DV r i s = true) : MKr (SR r i) (SI r i) (2 * s) = true := by
  obtain ⟨a1, a2, a3, a4, a5, a6, _⟩ := (DV_iff r i s).1 h
  have := sq_bd30 r ⟨a1, a2⟩; have := sq_bd30 i ⟨a3, a4⟩; have := mul_bd30 r i ⟨a1, a2⟩ ⟨a3, a4⟩
  have e : SI r i = 2 * (r * i) := by unfold SI; rw [Int.mul_assoc]
  exact (MKr_iff _ _ _).2 ⟨by omega, by omega, by unfold SR; omega, by unfold SR; omega, by omega, by omega⟩



end Go.Proofs.Ytgnkjfafgcbpbaa
