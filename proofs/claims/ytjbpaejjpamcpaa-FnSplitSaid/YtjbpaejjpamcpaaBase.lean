/- What the small helpers give: a number in a range; a division rounded down. -/
import Derived.Test.YtjbpaejjpamcpaaKit
namespace Go.Proofs.Ytjbpaejjpamcpaa
set_option linter.unusedSimpArgs false
set_option linter.unusedVariables false
open Go.RowKit

theorem l6In_any (n lo hi : Int) (w : World) :
    Calls Try.prog 60 #[.int .i64 n, .int .i64 lo, .int .i64 hi] w fun e w' => e = .returned (.bool (decide (lo ≤ n) && decide (n ≤ hi))) ∧ w = w' := by
  go_enter Try.func60, Try.ntmps60
  go_wp2
  all_goals (go_ret; exact ⟨by simp [*] <;> omega, rfl⟩)

theorem neg_ediv_0 (m d : Int) (hd : 1 ≤ d) (h : m % d = 0) : (-m) / d = -(m / d) := by
  have e := Int.mul_ediv_add_emod m d
  have : -m = d * (-(m / d)) := by rw [Int.mul_neg]; omega
  rw [Int.ediv_eq_of_eq_mul_right (by omega) this]
theorem neg_ediv_1 (m d : Int) (hd : 1 ≤ d) (h : m % d ≠ 0) : (-m) / d = -(m / d) - 1 := by
  have e := Int.mul_ediv_add_emod m d
  have h0 : 0 ≤ m % d := Int.emod_nonneg _ (by omega)
  have h1 : m % d < d := Int.emod_lt_of_pos _ (by omega)
  have : -m = (d - m % d) + d * (-(m / d) - 1) := by rw [Int.mul_sub, Int.mul_neg]; omega
  rw [this, Int.add_mul_ediv_left _ _ (by omega), Int.ediv_eq_zero_of_lt (by omega) (by omega)]; omega

theorem l4Floor_pos (n d : Int) (w : World) (hd : 1 ≤ d) (hn : -4611686018427387904 ≤ n) (hn' : n ≤ 4611686018427387904) (hd' : d ≤ 4611686018427387904) :
    Calls Try.prog 26 #[.int .i64 n, .int .i64 d] w fun e w' => e = .returned (.int .i64 (n / d)) ∧ w = w' := by
  by_cases h0 : 0 ≤ n
  · go_enter Try.func26, Try.ntmps26
    go_wp2
    all_goals (go_returns; exact ⟨rfl, rfl⟩)
  · obtain ⟨m, rfl⟩ : ∃ m, n = -m := ⟨-n, by omega⟩
    have h1 : ¬ 0 ≤ -m := h0
    have e1 : (-m).tdiv d = -(m / d) := by rw [Int.neg_tdiv, Int.tdiv_eq_ediv_of_nonneg (by omega)]
    have e2 : (-m).tmod d = -(m % d) := by rw [Int.neg_tmod, Int.tmod_eq_emod_of_nonneg (by omega)]
    have q0 : 0 ≤ m / d := Int.ediv_nonneg (by omega) (by omega)
    have q1 : m / d ≤ m := Int.ediv_le_self _ (by omega)
    by_cases hr : m % d = 0
    · have HE := Lib.hid (neg_ediv_0 m d hd hr)
      have e3 : (-(m % d) != 0) = false := by rw [hr]; rfl
      have e4 : m.tmod d = m % d := Int.tmod_eq_emod_of_nonneg (by omega)
      have e5 : m.tdiv d = m / d := Int.tdiv_eq_ediv_of_nonneg (by omega)
      go_enter Try.func26, Try.ntmps26
      go_wp2
      go_returns
      exact ⟨by rw [HE.out]; first | done | rfl, rfl⟩
    · have HE := Lib.hid (neg_ediv_1 m d hd hr)
      have e3 : (-(m % d) != 0) = true := by rw [bne_iff_ne]; omega
      have e4 : m.tmod d = m % d := Int.tmod_eq_emod_of_nonneg (by omega)
      have e5 : m.tdiv d = m / d := Int.tdiv_eq_ediv_of_nonneg (by omega)
      go_enter Try.func26, Try.ntmps26
      go_wp2
      go_returns
      exact ⟨by rw [HE.out]; first | done | rfl, rfl⟩

end Go.Proofs.Ytjbpaejjpamcpaa
