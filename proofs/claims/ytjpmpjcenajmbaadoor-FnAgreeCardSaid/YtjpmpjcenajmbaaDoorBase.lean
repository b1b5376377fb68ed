/- What the small helpers give: a number in a range; a division rounded down. -/
import Derived.Test.YtjpmpjcenajmbaaDoorKit
namespace Go.Proofs.YtjpmpjcenajmbaaDoor
set_option linter.unusedSimpArgs false
set_option linter.unusedVariables false
open Go.RowKit

theorem l6In_any (n lo hi : Int) (w : World) :
    Calls Tryd.prog 43 #[.int .i64 n, .int .i64 lo, .int .i64 hi] w fun e w' => e = .returned (.bool (decide (lo ≤ n) && decide (n ≤ hi))) ∧ w = w' := by
  go_enter Tryd.func43, Tryd.ntmps43
  go_wp2
  all_goals (go_ret; exact ⟨by simp [*] <;> omega, rfl⟩)

theorem neg_ediv_0 (m d : Int) (hd : 1 ≤ d) (h : m % d = 0) : (-m) / d = -(m / d) := by
  have e := Int.mul_ediv_add_emod m d
  have : -m = d * (-(m / d)) := by rw [Int.mul_neg]; omega
  rw [Int.ediv_eq_of_eq_mul_right (by omega) this]
theorem neg_ediv_1 (m d : Int) (hd : 1 ≤ d) (h : m % d ≠ 0) : (-m) / d = -(m / d) - 1 := by
  have e := Int.mul_ediv_add_emod m d
  have h0 : 0 ≤ m % d := Int.emod_nonneg _ (by omega)
  have h1 : m % d < d := Int.emod_lt_of_pos _ (by omega)
  have : -m = (d - m % d) + d * (-(m / d) - 1) := by rw [Int.mul_sub, Int.mul_neg]; omega
  rw [this, Int.add_mul_ediv_left _ _ (by omega), Int.ediv_eq_zero_of_lt (by omega) (by omega)]; omega


end Go.Proofs.YtjpmpjcenajmbaaDoor
